import Derived.Test.YthichmclbiggmaaDoorZ4
import Derived.Test.YthichmclbiggmaaDoorProg
import Derived.Test.YthichmclbiggmaaDoorRows
import Derived.Test.YthichmclbiggmaaDoorChecked
import Derived.WalkKit
import Derived.ProofKit
import Derived.OpenShut
import Derived.ShutString
import Derived.ChangeOld
import Derived.Below
set_option linter.unusedVariables false
set_option linter.unusedSimpArgs false
section
namespace Go.Sx
open Go Go.RowKit Go.Ch Go.Proofs.YthichmclbiggmaaDoor
theorem wpos {l : List UInt32} (h : l.length ≠ 0) : nV l = nV (l.take (l.length - 1)) + 4294967296 ^ (l.length - 1) * (l.getD (l.length - 1) 0).toNat := by
 have h1 := V_take l (l.length - 1) (by omega)
 rwa [show l.length - 1 + 1 = l.length by omega, List.take_length] at h1
theorem lastD {l : List UInt32} (h : l ≠ []) : l.getLast h = l.getD (l.length - 1) 0 := by
 have : l.length - 1 < l.length := by have := List.length_pos_iff.2 h; omega
 rw [List.getLast_eq_getElem, List.getD_eq_getElem?_getD, List.getElem?_eq_getElem this]; rfl
theorem ptrim_l1_is (n : Nat) (a : List UInt32) (ha : a.length ≤ 1000000) : ∀ (k fu : Nat), k < fu → k ≤ a.length → nV (a.take k) = nV a →
  ∃ m, ptrim_l1 n a fu k = some (a, m) ∧ a.take m = nD (nV a) ∧ m = (nD (nV a)).length := by
 intro k
 have fin : ∀ k, k ≤ a.length → a.take k = nD (nV a) → k = (nD (nV a)).length := fun k h1 h2 => by rw [← h2, List.length_take]; omega
 induction k with
 | zero =>
  intro fu hf hk he
  cases fu with
  | zero => omega
  | succ fu =>
   have h0 : nV a = 0 := by rw [← he]; rfl
   have h1 : a.take 0 = nD (nV a) := by rw [h0, D_zero]; rfl
   exact ⟨0, by rw [ptrim_l1, ite_f (by simp)], h1, fin 0 hk h1⟩
 | succ k ih =>
  intro fu hf hk he
  cases fu with
  | zero => omega
  | succ fu =>
   have e : (((k + 1 : Nat) : Int) - 1).toNat = k := by omega
   rw [ptrim_l1, ite_t (by simp <;> omega), gd_pos (okI64 (by omega) (by omega)), gd_pos (by omega), gd_pos (by omega), e]
   have h1 := V_take a k (by omega)
   by_cases hz : a.getD k 0 = 0
   ·rw [ite_t (by rw [hz]; rfl), gd_pos (okI64 (by omega) (by omega)), gd_pos (by omega), gd_pos (by omega)]
    rw [hz] at h1
    exact ih fu (by omega) (by omega) (by rw [← he, h1]; rfl)
   ·rw [ite_f (by simp only [beq_eq_false_iff_ne]; exact hz)]
    have hl : (a.take (k + 1)).length = k + 1 := by rw [List.length_take]; omega
    have h2 : a.take (k + 1) = nD (nV a) := by
     rw [← he]
     refine (D_V fun hn => ?_).symm
     rw [lastD hn, hl, Nat.add_sub_cancel, List.getD_eq_getElem?_getD, List.getElem?_take_of_lt (by omega), ← List.getD_eq_getElem?_getD]
     exact hz
    exact ⟨k + 1, rfl, h2, fin _ hk h2⟩
theorem ptrim_tk {n : Nat} (hn : 18446744073709551616 ≤ n) {a : List UInt32} (ha : a.length ≤ 1000000) : ptrim n a = some (a, (nD (nV a)).length) ∧ (a.drop 0).take (nD (nV a)).length = nD (nV a) := by
 obtain ⟨m, h1, h2, h3⟩ := ptrim_l1_is n a ha a.length n (by omega) (Nat.le_refl _) (by rw [List.take_length])
 subst h3
 exact ⟨h1, h2⟩
theorem ptrim_is {n : Nat} (hn : 18446744073709551616 ≤ n) {a : List UInt32} (ha : a.length ≤ 1000000) : ptrim n a = some (a, (nD (nV a)).length) := (ptrim_tk hn ha).1
theorem tk {a : List UInt32} (ha : a.length ≤ 1000000) : (a.drop 0).take (nD (nV a)).length = nD (nV a) := (ptrim_tk (n := 18446744073709551616) (Nat.le_refl _) ha).2
theorem D_le {a : List UInt32} : (nD (nV a)).length ≤ a.length := (D_len _ _).2 (V_lt a)
theorem pmay_is {n : Nat} (hn : 18446744073709551616 ≤ n) {a b : List UInt32} (ha : a.length ≤ 1000000) (hb : b.length ≤ 1000000) :
  pmay n a b = some (nD (nV a), (nD (nV a)).length, nD (nV b), (nD (nV b)).length, decide ((nD (nV a)).length ≤ 64 ∧ (nD (nV b)).length ≤ 64)) := by
 unfold pmay
 rw [ptrim_is hn ha, ptrim_is hn hb]
 simp only [Option.bind_some, tk ha, tk hb]
 show (bif decide ((((nD (nV a)).length : Nat) : Int) ≤ 64) then _ else _) = _
 by_cases h : (nD (nV a)).length ≤ 64
 ·rw [ite_t (by simp; omega)]
  congr 5
  simp [h]; omega
 ·rw [ite_f (by simp; omega)]
  simp [h]
theorem cCmp_is (n : Nat) (x y : Int) : cCmp n x y = some (if x < y then -1 else if y < x then 1 else 0) := by
 unfold cCmp cisNaN
 simp only [Option.bind_some, bne_self_eq_false, cond_false]
 by_cases h : x < y
 ·simp [h]
 ·by_cases h2 : y < x <;> simp [h, h2]
theorem cCmp32_is (n : Nat) (x y : UInt32) : cCmp32 n x y = some (if x.toNat < y.toNat then -1 else if y.toNat < x.toNat then 1 else 0) := by
 unfold cCmp32 cisNaN32
 simp only [Option.bind_some, bne_self_eq_false, cond_false, ← UInt32.lt_iff_toNat_lt]
 by_cases h : x < y
 ·simp [h]
 ·by_cases h2 : y < x <;> simp [h, h2]
def cmpN (x y : Nat) : Int := if x < y then -1 else if y < x then 1 else 0
theorem cmpN_lt {x y : Nat} (h : x < y) : cmpN x y = -1 := if_pos h
theorem cmpN_gt {x y : Nat} (h : y < x) : cmpN x y = 1 := by unfold cmpN; rw [if_neg (by omega), if_pos h]
theorem cmpN_eq {x y : Nat} (h : x = y) : cmpN x y = 0 := by unfold cmpN; rw [if_neg (by omega), if_neg (by omega)]
theorem cmpN_neg {x y : Nat} : cmpN x y < 0 ↔ x < y := by unfold cmpN; split <;> (try split) <;> omega
theorem cmpN_zero {x y : Nat} : cmpN x y = 0 ↔ x = y := by unfold cmpN; split <;> (try split) <;> omega
theorem mul_pow_lt {p x y c d : Nat} (hc : c < p) (h : x < y) : c + p * x < d + p * y := by
 have : p * (x + 1) ≤ p * y := Nat.mul_le_mul_left p h
 rw [Nat.mul_add] at this; omega
theorem pCmp_l1_is (n : Nat) (a b x y u v : List UInt32) (lu : Nat) (hu : (a.drop 0).take lu = u) (hv : (b.drop 0).take lu = v) (h1 : u.length = lu) (h2 : v.length = lu) (hlu : lu ≤ 1000000) : ∀ (j fu : Nat), j < fu → j ≤ lu → nV (u.drop j) = nV (v.drop j) →
  pCmp_l1 n a b (x, lu) (y, lu) fu ((j : Int) - 1) = some (cmpN (nV u) (nV v)) := by
 intro j
 induction j with
 | zero =>
  intro fu hf _ he
  cases fu with
  | zero => omega
  | succ fu => rw [pCmp_l1, ite_f (by simp), cmpN_eq (by simpa using he)]
 | succ j ih =>
  intro fu hf hj he
  cases fu with
  | zero => omega
  | succ fu =>
   have e : (((j + 1 : Nat) : Int) - 1) = (j : Int) := by omega
   have e1 := V_drop u j (by omega)
   have e2 := V_drop v j (by omega)
   have s1 := V_split u j
   have s2 := V_split v j
   have l1 := V_lt (u.take j)
   have l2 := V_lt (v.take j)
   have m1 : (u.take j).length = j := by simp; omega
   have m2 : (v.take j).length = j := by simp; omega
   rw [m1] at l1; rw [m2] at l2
   rw [e, pCmp_l1, ite_t (by simp), gd_pos (by omega), gd_pos (by omega), gd_pos (by omega), gd_pos (by omega), cCmp32_is]
   simp only [Option.bind_some, Int.toNat_natCast, hu, hv]
   by_cases hlt : (u.getD j 0).toNat < (v.getD j 0).toNat
   ·rw [if_pos hlt, ite_t (by rfl), cmpN_lt]
    rw [s1, s2]
    exact mul_pow_lt l1 (by omega)
   ·by_cases hgt : (v.getD j 0).toNat < (u.getD j 0).toNat
    ·rw [if_neg hlt, if_pos hgt, ite_t (by rfl), cmpN_gt]
     rw [s1, s2]
     exact mul_pow_lt l2 (by omega)
    ·rw [if_neg hlt, if_neg hgt, ite_f (by rfl), gd_pos (okI64 (by omega) (by omega))]
     exact ih fu (by omega) (by omega) (by omega)
theorem pCmp_is {n : Nat} (hn : 18446744073709551616 ≤ n) {a b : List UInt32} (ha : a.length ≤ 1000000) (hb : b.length ≤ 1000000) : pCmp n a b = some (cmpN (nV a) (nV b)) := by
 have la := D_le (a := a)
 have lb := D_le (a := b)
 unfold pCmp
 rw [ptrim_is hn ha, ptrim_is hn hb]
 simp only [Option.bind_some]
 rw [cCmp_is]
 simp only [Option.bind_some]
 by_cases h : (nD (nV a)).length < (nD (nV b)).length
 ·rw [if_pos (by omega), ite_t (by rfl), cmpN_lt]
  have h1 := (D_len (nV a) (nD (nV a)).length).1 (by omega)
  have h2 := mt (D_len (nV b) (nD (nV a)).length).2 (by omega)
  omega
 ·by_cases h' : (nD (nV b)).length < (nD (nV a)).length
  ·rw [if_neg (by omega), if_pos (by omega), ite_t (by rfl), cmpN_gt]
   have h1 := (D_len (nV b) (nD (nV b)).length).1 (by omega)
   have h2 := mt (D_len (nV a) (nD (nV b)).length).2 (by omega)
   omega
  ·rw [if_neg (by omega), if_neg (by omega), ite_f (by rfl), gd_pos (okI64 (by omega) (by omega))]
   have hl : (nD (nV b)).length = (nD (nV a)).length := by omega
   have := pCmp_l1_is n a b a b (nD (nV a)) (nD (nV b)) (nD (nV a)).length (tk ha) (by rw [← hl]; exact tk hb) rfl hl (by omega) (nD (nV a)).length n (by omega) (by omega) (by
    rw [List.drop_of_length_le (by omega), List.drop_of_length_le (by omega)])
   rw [V_D, V_D] at this
   rw [hl]; exact this
theorem V_take' (l : List UInt32) (i : Nat) : nV (l.take (i + 1)) = nV (l.take i) + 4294967296 ^ i * (l.getD i 0).toNat := by
 by_cases h : i < l.length
 ·exact V_take l i h
 ·rw [List.take_of_length_le (by omega), List.take_of_length_le (by omega), List.getD_eq_getElem?_getD, List.getElem?_eq_none (by omega)]; simp
def Nz (l : List UInt32) (i : Nat) : Prop := ∀ k, i ≤ k → l.getD k 0 = 0
theorem Nz.rep (n : Nat) : Nz (List.replicate n 0) 0 := by
 intro k _
 rw [List.getD_eq_getElem?_getD, List.getElem?_replicate]; split <;> rfl
theorem Nz.set {l : List UInt32} {i : Nat} (h : Nz l i) (x : UInt32) : Nz (l.set i x) (i + 1) := by
 intro k hk
 have := h k (by omega)
 rw [List.getD_eq_getElem?_getD] at *
 rw [List.getElem?_set_ne (by omega)]; exact this
theorem Nz.V_set {l : List UInt32} {i : Nat} (h : Nz l i) (x : UInt32) (hi : i < l.length) : nV (l.set i x) = nV l + 4294967296 ^ i * x.toNat := by
 have := Go.Sx.V_set l i x hi
 rw [h i (by omega)] at this
 simpa using this
theorem shr64_is (x : UInt64) (k : Nat) (h : k < 64) : (shr64 x (k : Int)).toNat = x.toNat / 2 ^ k := by
 unfold shr64
 rw [if_pos (by omega), Int.toNat_natCast, UInt64.toNat_shiftRight]
 have : (UInt64.ofNat k).toNat % 64 = k := by simp; omega
 rw [this, Nat.shiftRight_eq_div_pow]
theorem u64_32 (x : UInt32) : x.toUInt64.toNat = x.toNat := UInt32.toNat_toUInt64 x
theorem u32_64 (x : UInt64) : x.toUInt32.toNat = x.toNat % 4294967296 := UInt64.toNat_toUInt32 x
theorem u64_add (x y : UInt64) : (x + y).toNat = (x.toNat + y.toNat) % 18446744073709551616 := UInt64.toNat_add x y
theorem u64_mul (x y : UInt64) : (x * y).toNat = (x.toNat * y.toNat) % 18446744073709551616 := UInt64.toNat_mul x y
theorem u64_sub (x y : UInt64) : (x - y).toNat = (18446744073709551616 - y.toNat + x.toNat) % 18446744073709551616 := UInt64.toNat_sub x y
theorem u64_lt (x : UInt64) : x.toNat < 18446744073709551616 := x.toNat_lt
theorem pow1 (i : Nat) : 4294967296 ^ (i + 1) = 4294967296 * 4294967296 ^ i := by rw [Nat.pow_succ, Nat.mul_comm]
theorem D_mono {x y : Nat} (h : x ≤ y) : (nD x).length ≤ (nD y).length := (D_len _ _).2 (Nat.lt_of_le_of_lt h ((D_len _ _).1 (Nat.le_refl _)))
theorem pCmp_D {n : Nat} (hn : 18446744073709551616 ≤ n) {x y : Nat} (hx : (nD x).length ≤ 1000000) (hy : (nD y).length ≤ 1000000) : pCmp n (nD x) (nD y) = some (cmpN x y) := by
 have := pCmp_is hn hx hy
 rwa [V_D, V_D] at this
theorem getD_rep0 (n k : Nat) : (List.replicate n (0 : UInt32)).getD k 0 = 0 := Nz.rep n k (Nat.zero_le _)
theorem ptimes_l2_is (n : Nat) (a b : List UInt32) (ha : a.length ≤ 900000) (hb : b.length ≤ 90000) (i : Nat) (hi : i < a.length) (K : List UInt32 → Int → Option (List UInt32 × Nat)) (v0 : Nat) :
  ∀ (m k fu : Nat) (w : List UInt32) (c : UInt64), k + m = b.length → m < fu → w.length = a.length + b.length → Nz w (i + b.length) → nV w + 4294967296 ^ (i + k) * c.toNat = v0 + 4294967296 ^ i * ((a.getD i 0).toNat * nV (b.take k)) → c.toNat < 4294967296 →
  ∃ w' : List UInt32, w'.length = a.length + b.length ∧ Nz w' (i + 1 + b.length) ∧ nV w' = v0 + 4294967296 ^ i * ((a.getD i 0).toNat * nV b) ∧ ptimes_l2 n a b (i : Int) K fu w c (k : Int) = K w' ((i + 1 : Nat) : Int) := by
 intro m
 induction m with
 | zero =>
  intro k fu w c hk hf hw hz hv hc
  cases fu with
  | zero => omega
  | succ fu =>
   refine ⟨w.set (i + b.length) c.toUInt32, by rw [List.length_set]; exact hw, ?_, ?_, ?_⟩
   ·have := hz.set c.toUInt32
    rwa [show i + b.length + 1 = i + 1 + b.length by omega] at this
   ·rw [hz.V_set _ (by omega), u32_64, Nat.mod_eq_of_lt hc]
    rwa [List.take_of_length_le (by omega), show k = b.length by omega] at hv
   ·rw [ptimes_l2, ite_f (by simp; omega), gd_pos (okI64 (by omega) (by omega)), gd_pos (by omega), gd_pos (by omega), gd_pos (okI64 (by omega) (by omega))]
    rw [show ((i : Int) + (b.length : Nat)).toNat = i + b.length by omega]; rfl
 | succ m ih =>
  intro k fu w c hk hf hw hz hv hc
  cases fu with
  | zero => omega
  | succ fu =>
   have e1 : ((i : Int) + (k : Nat)).toNat = i + k := by omega
   rw [ptimes_l2, ite_t (by simp; omega), gd_pos (by omega), gd_pos (by omega), gd_pos (okI64 (by omega) (by omega)), gd_pos (by omega), gd_pos (by omega), gd_pos (okI64 (by omega) (by omega)), gd_pos (by omega), gd_pos (by omega), gd_pos (by omega), gd_pos (okI64 (by omega) (by omega))]
   rw [e1, Int.toNat_natCast, Int.toNat_natCast]
   have hA := u32_lt (a.getD i 0)
   have hB := u32_lt (b.getD k 0)
   have hW := u32_lt (w.getD (i + k) 0)
   have hAB : (a.getD i 0).toNat * (b.getD k 0).toNat ≤ 4294967295 * 4294967295 := Nat.mul_le_mul (by omega) (by omega)
   generalize hs : c + ((a.getD i 0).toUInt64 * (b.getD k 0).toUInt64 + (w.getD (i + k) 0).toUInt64) = s
   have es : s.toNat = c.toNat + ((a.getD i 0).toNat * (b.getD k 0).toNat + (w.getD (i + k) 0).toNat) := by
    rw [← hs, u64_add, u64_add, u64_mul, u64_32, u64_32, u64_32]; omega
   have ec : (shr64 s 32).toNat = s.toNat / 4294967296 := shr64_is s 32 (by decide)
   have hV := V_set w (i + k) s.toUInt32 (by omega)
   refine ih (k + 1) fu _ _ (by omega) (by omega) (by rw [List.length_set]; exact hw) ?_ ?_ (by rw [ec]; omega)
   ·intro q hq
    rw [getD_set_ne _ _ (by omega)]; exact hz q hq
   ·rw [ec, V_take', show i + (k + 1) = (i + k) + 1 by omega, pow1]
    rw [u32_64] at hV
    rw [Nat.pow_add] at *
    have hd := Nat.mod_add_div s.toNat 4294967296
    generalize s.toNat % 4294967296 = x at *
    generalize s.toNat / 4294967296 = y at *
    generalize 4294967296 ^ i = p at *
    generalize 4294967296 ^ k = q at *
    clear ec hs hAB hA hB hW ih
    grind
theorem ptimes_l1_is {n : Nat} (hn : 18446744073709551616 ≤ n) (a b : List UInt32) (ha : a.length ≤ 900000) (hb : b.length ≤ 90000) :
  ∀ (m i fu : Nat) (w : List UInt32), i + m = a.length → m < fu → w.length = a.length + b.length → Nz w (i + b.length) → nV w = nV (a.take i) * nV b →
  ptimes_l1 n a b fu w (i : Int) = some (nD (nV a * nV b), (nD (nV a * nV b)).length) := by
 intro m
 induction m with
 | zero =>
  intro i fu w hi hf hw hz hv
  cases fu with
  | zero => omega
  | succ fu =>
   rw [List.take_of_length_le (by omega)] at hv
   rw [ptimes_l1, ite_f (by simp; omega), ptrim_is hn (by omega)]
   simp only [Option.bind_some, tk (show w.length ≤ 1000000 by omega)]
   rw [hv]
 | succ m ih =>
  intro i fu w hi hf hw hz hv
  cases fu with
  | zero => omega
  | succ fu =>
   rw [ptimes_l1, ite_t (by simp; omega), gd_pos (by omega), gd_pos (by omega)]
   obtain ⟨w', h1, h2, h3, h4⟩ := ptimes_l2_is n a b ha hb i (by omega) (ptimes_l1 n a b fu) (nV w) b.length 0 n w 0 (by omega) (by omega) hw hz (by simp [V_nil]) (by decide)
   have h4' : ptimes_l2 n a b (i : Int) (ptimes_l1 n a b fu) n w 0 0 = _ := h4
   rw [h4']
   refine ih (i + 1) fu w' (by omega) (by omega) h1 h2 ?_
   rw [h3, hv, V_take']; grind
theorem ptimes_is {n : Nat} (hn : 18446744073709551616 ≤ n) {a b : List UInt32} (ha : a.length ≤ 90000) (hb : b.length ≤ 90000) : ptimes n a b = some (nD (nV a * nV b), (nD (nV a * nV b)).length) := by
 unfold ptimes
 rw [gd_pos (okI64 (by omega) (by omega)), gd_pos (by omega), gd_pos (by trivial), gd_pos (by unfold rmB; omega)]
 refine ptimes_l1_is hn a b (by omega) hb a.length 0 n _ (by omega) (by omega) (by simp; omega) ?_ (by simp [V_rep, V_nil])
 intro k _
 exact getD_rep0 _ _
theorem ptimes_D {n : Nat} (hn : 18446744073709551616 ≤ n) {x y : Nat} (hx : (nD x).length ≤ 90000) (hy : (nD y).length ≤ 90000) : ptimes n (nD x) (nD y) = some (nD (x * y), (nD (x * y)).length) := by
 have := ptimes_is hn hx hy
 rwa [V_D, V_D] at this
theorem shl64_or (r : UInt64) (x : UInt32) (h : r.toNat < 4294967296) : ((shl64 r 32) ||| x.toUInt64).toNat = r.toNat * 4294967296 + x.toNat := by
 have hx := u32_lt x
 have e : shl64 r 32 = r <<< 32 := rfl
 rw [e, UInt64.toNat_or, UInt64.toNat_shiftLeft, u64_32]
 have e2 : (32 : UInt64).toNat % 64 = 32 := rfl
 rw [e2, Nat.shiftLeft_eq, Nat.mod_eq_of_lt (by omega)]
 have := Nat.shiftLeft_add_eq_or_of_lt (i := 32) hx r.toNat
 rw [← Nat.shiftLeft_eq, ← this]
theorem pshort_l1_is {n : Nat} (hn : 18446744073709551616 ≤ n) (a : List UInt32) (b : UInt32) (hb : b.toNat ≠ 0) (ha : a.length ≤ 1000000) :
  ∀ (j fu : Nat) (w : List UInt32) (r : UInt64), j < fu → j ≤ a.length → w.length = a.length → (∀ k, k < j → w.getD k 0 = 0) → nV w * b.toNat + 4294967296 ^ j * r.toNat + nV (a.take j) = nV a → r.toNat < b.toNat →
  pshort_l1 n a b fu w r ((j : Int) - 1) = some (nD (nV a / b.toNat), (nD (nV a / b.toNat)).length, nD (nV a % b.toNat), (nD (nV a % b.toNat)).length) := by
 intro j
 have hB := u32_lt b
 induction j with
 | zero =>
  intro fu w r hf hj hw hz hv hr
  cases fu with
  | zero => omega
  | succ fu =>
   simp only [Nat.pow_zero, Nat.one_mul, List.take_zero, V_nil, Nat.add_zero] at hv
   have hq : nV a / b.toNat = nV w := by rw [← hv, Nat.add_comm, Nat.add_mul_div_right _ _ (by omega), Nat.div_eq_of_lt hr, Nat.zero_add]
   have hm : nV a % b.toNat = r.toNat := by rw [← hv, Nat.add_comm, Nat.add_mul_mod_self_right, Nat.mod_eq_of_lt hr]
   have hx : nV [r.toUInt32] = r.toNat := by rw [V_cons, V_nil, u32_64]; omega
   rw [pshort_l1, ite_f (by simp), ptrim_is hn (by omega), ptrim_is hn (by simp)]
   simp only [Option.bind_some, tk (show w.length ≤ 1000000 by omega), tk (show [r.toUInt32].length ≤ 1000000 by simp)]
   rw [hx, hq, hm]
 | succ j ih =>
  intro fu w r hf hj hw hz hv hr
  cases fu with
  | zero => omega
  | succ fu =>
   have hb0 : b.toUInt64 ≠ 0 := fun h => hb (by rw [← u64_32, h]; rfl)
   rw [show ((j + 1 : Nat) : Int) - 1 = (j : Int) by omega, pshort_l1, ite_t (by simp), gd_pos (by omega), gd_pos (by omega), gd_pos (by omega), gd_pos hb0, gd_pos hb0, gd_pos (by omega), gd_pos (by omega), gd_pos (okI64 (by omega) (by omega)), Int.toNat_natCast]
   have hA := u32_lt (a.getD j 0)
   have es := shl64_or r (a.getD j 0) (by omega)
   generalize hs : shl64 r 32 ||| (a.getD j 0).toUInt64 = s at *
   have hV := V_set w j (s / b.toUInt64).toUInt32 (by omega)
   rw [hz j (by omega), u32_64, UInt64.toNat_div, u64_32] at hV
   have hlt : s.toNat / b.toNat < 4294967296 := by
    rw [Nat.div_lt_iff_lt_mul (by omega), es]
    have : r.toNat * 4294967296 + 4294967296 ≤ b.toNat * 4294967296 := by have := Nat.mul_le_mul_right 4294967296 (show r.toNat + 1 ≤ b.toNat by omega); omega
    omega
   rw [Nat.mod_eq_of_lt hlt] at hV
   have hsm : (s % b.toUInt64).toNat = s.toNat % b.toNat := by rw [UInt64.toNat_mod, u64_32]
   refine ih fu _ _ (by omega) (by omega) (by rw [List.length_set]; exact hw) ?_ ?_ (by rw [hsm]; exact Nat.mod_lt _ (by omega))
   ·intro k hk
    rw [getD_set_ne _ _ (by omega)]; exact hz k (by omega)
   ·rw [hsm]
    rw [V_take', pow1] at hv
    have hd := Nat.mod_add_div s.toNat b.toNat
    generalize s.toNat % b.toNat = x at *
    generalize s.toNat / b.toNat = y at *
    generalize 4294967296 ^ j = p at *
    simp only [UInt32.toNat_zero, Nat.mul_zero, Nat.add_zero] at hV
    rw [hV]
    clear hsm hlt hs ih hb0 hz
    grind
theorem pshort_is {n : Nat} (hn : 18446744073709551616 ≤ n) {a : List UInt32} {b : UInt32} (hb : b.toNat ≠ 0) (ha : a.length ≤ 1000000) :
  pshort n a b = some (nD (nV a / b.toNat), (nD (nV a / b.toNat)).length, nD (nV a % b.toNat), (nD (nV a % b.toNat)).length) := by
 unfold pshort
 rw [gd_pos (by omega), gd_pos (by trivial), gd_pos (by unfold rmB; omega), gd_pos (okI64 (by omega) (by omega))]
 exact pshort_l1_is hn a b hb ha a.length n _ 0 (by omega) (Nat.le_refl _) (by simp) (fun k _ => getD_rep0 _ _) (by simp [V_rep]) (by show 0 < _; omega)
def len8 : List UInt8 := [0, 1, 2, 2, 3, 3, 3, 3, 4, 4, 4, 4, 4, 4, 4, 4, 5, 5, 5, 5, 5, 5, 5, 5, 5, 5, 5, 5, 5, 5, 5, 5, 6, 6, 6, 6, 6, 6, 6, 6, 6, 6, 6, 6, 6, 6, 6, 6, 6, 6, 6, 6, 6, 6, 6, 6, 6, 6, 6, 6, 6, 6, 6, 6, 7, 7, 7, 7, 7, 7, 7, 7, 7, 7, 7, 7, 7, 7, 7, 7, 7, 7, 7, 7, 7, 7, 7, 7, 7, 7, 7, 7, 7, 7, 7, 7, 7, 7, 7, 7, 7, 7, 7, 7, 7, 7, 7, 7, 7, 7, 7, 7, 7, 7, 7, 7, 7, 7, 7, 7, 7, 7, 7, 7, 7, 7, 7, 7, 8, 8, 8, 8, 8, 8, 8, 8, 8, 8, 8, 8, 8, 8, 8, 8, 8, 8, 8, 8, 8, 8, 8, 8, 8, 8, 8, 8, 8, 8, 8, 8, 8, 8, 8, 8, 8, 8, 8, 8, 8, 8, 8, 8, 8, 8, 8, 8, 8, 8, 8, 8, 8, 8, 8, 8, 8, 8, 8, 8, 8, 8, 8, 8, 8, 8, 8, 8, 8, 8, 8, 8, 8, 8, 8, 8, 8, 8, 8, 8, 8, 8, 8, 8, 8, 8, 8, 8, 8, 8, 8, 8, 8, 8, 8, 8, 8, 8, 8, 8, 8, 8, 8, 8, 8, 8, 8, 8, 8, 8, 8, 8, 8, 8, 8, 8, 8, 8, 8, 8, 8, 8, 8, 8, 8, 8, 8, 8]
theorem len8_is : ∀ k, k < 256 → (k ≠ 0 → 2 ^ ((len8.getD k 0).toNat - 1) ≤ k ∧ 1 ≤ (len8.getD k 0).toNat) ∧ k < 2 ^ (len8.getD k 0).toNat ∧ (len8.getD k 0).toNat ≤ 8 := by decide +kernel
set_option maxRecDepth 20000 in
theorem blen32_j2_is (n : Nat) (x : UInt32) (i : Nat) (hx : x.toNat < 256) (hi : i ≤ 100) : blen32_j2 n x (i : Int) = some (((i + (len8.getD x.toNat 0).toNat : Nat) : Int)) := by
 have e : x.toUInt8.toNat = x.toNat := by rw [UInt32.toNat_toUInt8]; omega
 have h := (len8_is x.toNat hx).2.2
 show (gd (0 ≤ ((x.toUInt8.toNat : Nat) : Int)) <| gd (((x.toUInt8.toNat : Nat) : Int) < ((len8.length : Nat) : Int)) <| gd (okI .i64 ((i : Int) + (((len8.getD ((x.toUInt8.toNat : Nat) : Int).toNat 0).toNat : Nat) : Int))) <| some ((i : Int) + (((len8.getD ((x.toUInt8.toNat : Nat) : Int).toNat 0).toNat : Nat) : Int))) = _
 rw [e, Int.toNat_natCast, gd_pos (by omega), gd_pos (by show (x.toNat : Int) < 256; omega), gd_pos (okI64 (by omega) (by omega))]
 simp
theorem shr32_is (x : UInt32) (k : Nat) (h : k < 32) : (shr32 x (k : Int)).toNat = x.toNat / 2 ^ k := by
 unfold shr32
 rw [if_pos (by omega), Int.toNat_natCast, UInt32.toNat_shiftRight]
 have : (UInt32.ofNat k).toNat % 32 = k := by simp; omega
 rw [this, Nat.shiftRight_eq_div_pow]
def Bits (x l : Nat) : Prop := 1 ≤ l ∧ 2 ^ (l - 1) ≤ x ∧ x < 2 ^ l
theorem blen32_is (n : Nat) (x : UInt32) (hx : x.toNat ≠ 0) : ∃ l : Nat, l ≤ 32 ∧ Bits x.toNat l ∧ blen32 n x = some (l : Int) := by
 have hX := u32_lt x
 have two : ∀ (y : UInt32) (i : Nat), i ≤ 16 → y.toNat < 65536 → y.toNat ≠ 0 → ∃ l : Nat, l ≤ 16 ∧ Bits y.toNat l ∧ blen32_j1 n y (i : Int) = some ((i + l : Nat) : Int) := by
  intro y i hi hy h0
  unfold blen32_j1
  by_cases h : 256 ≤ y.toNat
  ·have e : (shr32 y 8).toNat = y.toNat / 256 := shr32_is y 8 (by decide)
   rw [ite_t (by simp [UInt32.le_iff_toNat_le]; exact h), gd_pos (by omega), gd_pos (okI64 (by omega) (by omega))]
   have := blen32_j2_is n (shr32 y 8) (i + 8) (by rw [e]; omega) (by omega)
   obtain ⟨h1, h2, h3⟩ := len8_is (shr32 y 8).toNat (by rw [e]; omega)
   obtain ⟨h1, h4⟩ := h1 (by rw [e]; omega)
   generalize (len8.getD (shr32 y 8).toNat 0).toNat = l at *
   refine ⟨8 + l, by omega, ⟨by omega, ?_, ?_⟩, ?_⟩
   ·rw [show 8 + l - 1 = 8 + (l - 1) by omega, Nat.pow_add]
    rw [e] at h1; omega
   ·rw [Nat.pow_add]
    rw [e] at h2; omega
   ·rw [show (i : Int) + 8 = ((i + 8 : Nat) : Int) by omega, this, Nat.add_assoc]
  ·rw [ite_f (by simp [UInt32.le_iff_toNat_le]; exact Nat.lt_of_not_le h)]
   have := blen32_j2_is n y i (by omega) (by omega)
   obtain ⟨h1, h2, h3⟩ := len8_is y.toNat (by omega)
   obtain ⟨h1, h4⟩ := h1 (by omega)
   exact ⟨_, by omega, ⟨h4, h1, h2⟩, this⟩
 unfold blen32
 by_cases h : 65536 ≤ x.toNat
 ·have e : (shr32 x 16).toNat = x.toNat / 65536 := shr32_is x 16 (by decide)
  rw [ite_t (by simp [UInt32.le_iff_toNat_le]; exact h), gd_pos (by omega)]
  obtain ⟨l, h1, ⟨h2, h3, h4⟩, h5⟩ := two (shr32 x 16) 16 (by omega) (by rw [e]; omega) (by rw [e]; omega)
  refine ⟨16 + l, by omega, ⟨by omega, ?_, ?_⟩, h5⟩
  ·rw [show 16 + l - 1 = 16 + (l - 1) by omega, Nat.pow_add]
   rw [e] at h3; omega
  ·rw [Nat.pow_add]
   rw [e] at h4; omega
 ·rw [ite_f (by simp [UInt32.le_iff_toNat_le]; exact Nat.lt_of_not_le h)]
  obtain ⟨l, h1, h2, h3⟩ := two x 0 (by omega) (by omega) hx
  exact ⟨l, by omega, h2, by simpa using h3⟩
theorem bclz32_is (n : Nat) (x : UInt32) (hx : x.toNat ≠ 0) : ∃ s : Nat, s < 32 ∧ 2147483648 ≤ x.toNat * 2 ^ s ∧ x.toNat * 2 ^ s < 4294967296 ∧ bclz32 n x = some (s : Int) := by
 obtain ⟨l, h1, ⟨h2, h3, h4⟩, h5⟩ := blen32_is n x hx
 refine ⟨32 - l, by omega, ?_, ?_, ?_⟩
 ·have := Nat.mul_le_mul_right (2 ^ (32 - l)) h3
  rw [← Nat.pow_add, show l - 1 + (32 - l) = 31 by omega] at this
  exact this
 ·have := (Nat.mul_lt_mul_right (Nat.pow_pos (n := 32 - l) (show 0 < 2 by decide))).2 h4
  rw [← Nat.pow_add, show l + (32 - l) = 32 by omega] at this
  exact this
 ·unfold bclz32
  rw [h5]
  show gd (okI .i64 (32 - (l : Int))) _ = _
  rw [gd_pos (okI64 (by omega) (by omega)), show (32 : Int) - l = ((32 - l : Nat) : Int) by omega]
theorem shl32_or (o x : UInt32) (s : Nat) (hs : s < 32) (ho : o.toNat < 2 ^ s) : (o ||| shl32 x (s : Int)).toNat = o.toNat + x.toNat * 2 ^ s % 4294967296 := by
 have hX := u32_lt x
 have e : (shl32 x (s : Int)).toNat = x.toNat * 2 ^ s % 4294967296 := by
  unfold shl32
  rw [if_pos (by omega), Int.toNat_natCast, UInt32.toNat_shiftLeft]
  have : (UInt32.ofNat s).toNat % 32 = s := by simp; omega
  rw [this, Nat.shiftLeft_eq]
 have e2 : x.toNat * 2 ^ s % 4294967296 = (x.toNat % 2 ^ (32 - s)) <<< s := by
  rw [Nat.shiftLeft_eq, show (4294967296 : Nat) = 2 ^ (32 - s) * 2 ^ s by rw [← Nat.pow_add, show 32 - s + s = 32 by omega], Nat.mul_mod_mul_right]
 rw [UInt32.toNat_or, e, e2, Nat.or_comm, ← Nat.shiftLeft_add_eq_or_of_lt ho, Nat.add_comm]
theorem shr_shl (x : UInt32) (s : Nat) (hs : s ≤ 32) : (shl64 x.toUInt64 (s : Int)).toNat = x.toNat * 2 ^ s := by
 have hX := u32_lt x
 unfold shl64
 rw [if_pos (by omega), Int.toNat_natCast, UInt64.toNat_shiftLeft, u64_32]
 have : (UInt64.ofNat s).toNat % 64 = s := by simp; omega
 rw [this, Nat.shiftLeft_eq, Nat.mod_eq_of_lt]
 have h1 : 2 ^ s ≤ 2 ^ 32 := Nat.pow_le_pow_right (by decide) hs
 have h2 := Nat.mul_le_mul (show _ ≤ 4294967295 from Nat.le_of_lt_succ hX) h1
 omega
theorem pshift_l1_is (n : Nat) (a : List UInt32) (s : Nat) (hs : s < 32) (ha : a.length ≤ 1000000) : ∀ (m i fu : Nat) (w : List UInt32), i + m = a.length → m < fu → w.length = a.length + 1 → Nz w (i + 1) → (w.getD i 0).toNat < 2 ^ s → nV w = 2 ^ s * nV (a.take i) →
  ∃ u, pshift_l1 n a (s : Int) fu w (i : Int) = some (u, a.length + 1) ∧ u.length = a.length + 1 ∧ nV u = 2 ^ s * nV a := by
 intro m
 induction m with
 | zero =>
  intro i fu w hi hf hw hz hl hv
  cases fu with
  | zero => omega
  | succ fu =>
   rw [List.take_of_length_le (by omega)] at hv
   exact ⟨w, by rw [pshift_l1, ite_f (by simp; omega)]; rfl, hw, hv⟩
 | succ m ih =>
  intro i fu w hi hf hw hz hl hv
  cases fu with
  | zero => omega
  | succ fu =>
   have e1 : ((i : Int) + 1).toNat = i + 1 := by omega
   rw [pshift_l1, ite_t (by simp; omega), gd_pos (by omega), gd_pos (by omega), gd_pos (by omega), gd_pos (by omega), gd_pos (by omega), gd_pos (by omega), gd_pos (by omega), gd_pos (okI64 (by omega) (by omega)), gd_pos (by omega), gd_pos (by omega), gd_pos (by omega), gd_pos (by omega), gd_pos (okI64 (by omega) (by omega)), e1, Int.toNat_natCast]
   have hX := u32_lt (a.getD i 0)
   have es := shl32_or (w.getD i 0) (a.getD i 0) s hs hl
   generalize hx : w.getD i 0 ||| shl32 (a.getD i 0) (s : Int) = x at *
   have ey : ((shr64 (shl64 ((a.getD i 0).toUInt64) (s : Int)) 32).toUInt32).toNat = (a.getD i 0).toNat * 2 ^ s / 4294967296 := by
    rw [u32_64]
    have := shr64_is (shl64 ((a.getD i 0).toUInt64) (s : Int)) 32 (by decide)
    rw [shr_shl _ _ (by omega)] at this
    rw [show shr64 (shl64 (a.getD i 0).toUInt64 ↑s) 32 = shr64 (shl64 (a.getD i 0).toUInt64 ↑s) ((32 : Nat) : Int) from rfl, this]
    have h1 : 2 ^ s ≤ 2 ^ 32 := Nat.pow_le_pow_right (by decide) (by omega)
    have h2 := Nat.mul_le_mul (show _ ≤ 4294967295 from Nat.le_of_lt_succ hX) h1
    omega
   generalize hy : (shr64 (shl64 ((a.getD i 0).toUInt64) (s : Int)) 32).toUInt32 = y at *
   have hyl : y.toNat < 2 ^ s := by
    rw [ey, Nat.div_lt_iff_lt_mul (by decide), Nat.mul_comm]
    exact Nat.mul_lt_mul_of_pos_left hX (Nat.pow_pos (by decide))
   have h1 := V_set w i x (by omega)
   have h2 := V_set (w.set i x) (i + 1) y (by rw [List.length_set]; omega)
   rw [getD_set_ne _ _ (by omega), hz (i + 1) (by omega)] at h2
   refine ih (i + 1) fu _ (by omega) (by omega) (by simp; exact hw) ?_ ?_ ?_
   ·intro k hk
    rw [getD_set_ne _ _ (by omega), getD_set_ne _ _ (by omega)]; exact hz k (by omega)
   ·rw [getD_set_eq _ _ (by rw [List.length_set]; omega)]; exact hyl
   ·rw [V_take']
    rw [es] at h1
    rw [ey, pow1] at h2
    have hd := Nat.mod_add_div ((a.getD i 0).toNat * 2 ^ s) 4294967296
    generalize (a.getD i 0).toNat * 2 ^ s % 4294967296 = d at *
    generalize hq : (a.getD i 0).toNat * 2 ^ s / 4294967296 = q at *
    generalize 4294967296 ^ i = p at *
    simp only [UInt32.toNat_zero, Nat.mul_zero, Nat.add_zero] at h2
    rw [h2]
    clear ih hx hy hz hl hq
    grind
theorem pshift_is {n : Nat} (hn : 18446744073709551616 ≤ n) {a : List UInt32} {s : Nat} (hs : s < 32) (ha : a.length ≤ 100000) :
  ∃ u, pshift n a (s : Int) = some (u, a.length + 1) ∧ u.length = a.length + 1 ∧ nV u = 2 ^ s * nV a := by
 unfold pshift
 rw [gd_pos (okI64 (by omega) (by omega)), gd_pos (by omega), gd_pos (by trivial), gd_pos (by unfold rmB; omega)]
 refine pshift_l1_is n a s hs (by omega) a.length 0 n _ (by omega) (by omega) (by simp) (fun k _ => getD_rep0 _ _) ?_ (by simp [V_rep, V_nil])
 rw [getD_rep0]; exact Nat.pow_pos (by decide)
theorem digit_dn {q r uu v1 : Nat} (h : q * v1 + r = uu) (h2 : 0 < q) : (q - 1) * v1 + (r + v1) = uu := by
 obtain ⟨q, rfl⟩ : ∃ k, q = k + 1 := ⟨q - 1, by omega⟩
 simp only [Nat.add_sub_cancel]; grind
theorem digit_top {p N vl M ul q : Nat} (hvl : vl < p) (hN : 0 < N) (hq : q * N ≤ M) (hqN : q ≤ N) : q ≤ (M * p + ul) / (N * p + vl) + 1 := by
 cases q with
 | zero => exact Nat.zero_le _
 | succ q =>
  have hpos : 0 < N * p + vl := by have := Nat.mul_pos hN (show 0 < p by omega); omega
  have : q ≤ (M * p + ul) / (N * p + vl) := by
   rw [Nat.le_div_iff_mul_le hpos]
   have h1 : q * vl ≤ N * p := Nat.mul_le_mul (by omega) (by omega)
   have h2 := Nat.mul_le_mul_right p hq
   have h3 : (q + 1) * N * p = q * (N * p) + N * p := by grind
   have h4 : q * (N * p + vl) = q * (N * p) + q * vl := Nat.mul_add _ _ _
   omega
  omega
theorem digit_lo {p N vl M ul q : Nat} (hul : ul < p) (hq : M < q * N) : (M * p + ul) / (N * p + vl) < q := by
 have hN : 0 < N := by
  cases N with
  | zero => simp at hq
  | succ N => omega
 have hpos : 0 < N * p + vl := by have := Nat.mul_pos hN (show 0 < p by omega); omega
 rw [Nat.div_lt_iff_lt_mul hpos]
 have h1 := Nat.mul_le_mul_right p (show M + 1 ≤ q * N from hq)
 have h2 : q * (N * p + vl) = q * N * p + q * vl := by grind
 have h3 : (M + 1) * p = M * p + p := by grind
 have := Nat.zero_le (q * vl)
 omega
structure Dig (u1 u2 u3 v1 v2 Q : Nat) : Prop where
 lo : ∀ q, (u1 * 4294967296 + u2) * 4294967296 + u3 < q * (v1 * 4294967296 + v2) → Q < q
 hi : ∀ q, q ≤ 4294967297 → q * (v1 * 4294967296 + v2) ≤ (u1 * 4294967296 + u2) * 4294967296 + u3 → q ≤ Q + 1
 b : Q < 4294967296
 t : u1 ≤ v1
 v : 2147483648 ≤ v1
theorem dig_of {p u1 u2 u3 ul v1 v2 vl : Nat} (hul : ul < p) (hvl : vl < p) (hv : 2147483648 ≤ v1) (hv2 : v2 < 4294967296)
  (hW : (((u1 * 4294967296 + u2) * 4294967296 + u3) * p + ul) < 4294967296 * ((v1 * 4294967296 + v2) * p + vl)) :
  Dig u1 u2 u3 v1 v2 ((((u1 * 4294967296 + u2) * 4294967296 + u3) * p + ul) / ((v1 * 4294967296 + v2) * p + vl)) := by
 have hpos : 0 < (v1 * 4294967296 + v2) * p + vl := by have := Nat.mul_pos (show 0 < v1 * 4294967296 + v2 by omega) (show 0 < p by omega); omega
 refine ⟨fun q h => digit_lo hul h, fun q h1 h2 => digit_top hvl (by omega) h2 (by omega), ?_, ?_, hv⟩
 ·rw [Nat.div_lt_iff_lt_mul hpos]; exact hW
 ·refine Nat.le_of_not_lt fun h => ?_
  have h1 : (v1 + 1) * (4294967296 * 4294967296 * p) ≤ u1 * (4294967296 * 4294967296 * p) := Nat.mul_le_mul_right _ h
  have h2 : v2 * p + p ≤ 4294967296 * p := by
   have := Nat.mul_le_mul_right p (show v2 + 1 ≤ 4294967296 from hv2)
   rwa [Nat.add_mul, Nat.one_mul] at this
  have h3 : ((u1 * 4294967296 + u2) * 4294967296 + u3) * p + ul = u1 * (4294967296 * 4294967296 * p) + (u2 * 4294967296 * p + u3 * p + ul) := by grind
  have h4 : 4294967296 * ((v1 * 4294967296 + v2) * p + vl) = v1 * (4294967296 * 4294967296 * p) + 4294967296 * (v2 * p + vl) := by grind
  have h5 : (v1 + 1) * (4294967296 * 4294967296 * p) = v1 * (4294967296 * 4294967296 * p) + 4294967296 * 4294967296 * p := by grind
  rw [h3, h4] at hW
  rw [h5] at h1
  generalize u2 * 4294967296 * p + u3 * p + ul = x at *
  generalize u1 * (4294967296 * 4294967296 * p) = y at *
  generalize v1 * (4294967296 * 4294967296 * p) = z at *
  have h6 : 4294967296 * 4294967296 * p = 4294967296 * (4294967296 * p) := by grind
  rw [h6] at h1
  generalize v2 * p = a at *
  generalize 4294967296 * p = c at *
  omega
theorem dig_a {B r x y u3 uu : Nat} (h : x + r = uu) (ht : r * B + u3 < y) : uu * B + u3 < x * B + y := by
 subst h; rw [Nat.add_mul]; omega
theorem dig_b {B r x y u3 uu : Nat} (h : x + r = uu) (ht : ¬ r * B + u3 < y) : x * B + y ≤ uu * B + u3 := by
 subst h; rw [Nat.add_mul]; omega
theorem pdigit_l1_is (n : Nat) (u v : List UInt32) (j : Nat) (hv : 2 ≤ v.length) (hvl : v.length ≤ 100000) (hu : u.length ≤ 1000000) (hj : j + v.length < u.length) (Q : Nat)
  (hD : Dig (u.getD (j + v.length) 0).toNat (u.getD (j + v.length - 1) 0).toNat (u.getD (j + v.length - 2) 0).toNat (v.getD (v.length - 1) 0).toNat (v.getD (v.length - 2) 0).toNat Q) :
  ∀ (fu : Nat) (q r : UInt64), q.toNat < fu → Q ≤ q.toNat → q.toNat ≤ 4294967297 → q.toNat * (v.getD (v.length - 1) 0).toNat + r.toNat = (u.getD (j + v.length) 0).toNat * 4294967296 + (u.getD (j + v.length - 1) 0).toNat → r.toNat < 4294967296 →
  ∃ q' : UInt64, pdigit_l1 n u v (j : Int) fu q r = some q' ∧ Q ≤ q'.toNat ∧ q'.toNat ≤ Q + 1 ∧ q'.toNat < 4294967296 := by
 intro fu
 have h1 := u32_lt (u.getD (j + v.length) 0)
 have h2 := u32_lt (u.getD (j + v.length - 1) 0)
 have h3 := u32_lt (u.getD (j + v.length - 2) 0)
 have h4 := u32_lt (v.getD (v.length - 1) 0)
 have h5 := u32_lt (v.getD (v.length - 2) 0)
 have e1 : (((v.length : Nat) : Int) - 1).toNat = v.length - 1 := by omega
 have e2 : (((v.length : Nat) : Int) - 2).toNat = v.length - 2 := by omega
 have e3 : ((((j : Nat) : Int) + ((v.length : Nat) : Int)) - 2).toNat = j + v.length - 2 := by omega
 induction fu with
 | zero => intro q r h; omega
 | succ fu ih =>
  intro q r hf hQ hq huu hr
  have es : (shr64 q 32).toNat = q.toNat / 4294967296 := shr64_is q 32 (by decide)
  have er : (r + (v.getD (v.length - 1) 0).toUInt64).toNat = r.toNat + (v.getD (v.length - 1) 0).toNat := by rw [u64_add, u64_32]; omega
  have esr : (shr64 (r + (v.getD (v.length - 1) 0).toUInt64) 32).toNat = (r.toNat + (v.getD (v.length - 1) 0).toNat) / 4294967296 := by
   rw [← er]; exact shr64_is _ 32 (by decide)
  -- one less
  have down : Q < q.toNat → (gd (0 ≤ (32 : Int)) <|
    bif (decide ((0 : UInt64) < (shr64 (r + ((v.getD ((((v.length : Nat) : Int) - 1).toNat) 0).toUInt64)) 32))) then
     pdigit_j1 n (q - (1 : UInt64))
    else
     (pdigit_l1 n u v (j : Int) fu) (q - (1 : UInt64)) (r + ((v.getD ((((v.length : Nat) : Int) - 1).toNat) 0).toUInt64))) = (gd (0 ≤ (32 : Int)) <|
    bif (decide ((0 : UInt64) < (shr64 (r + ((v.getD ((((v.length : Nat) : Int) - 1).toNat) 0).toUInt64)) 32))) then
     pdigit_j1 n (q - (1 : UInt64))
    else
     (pdigit_l1 n u v (j : Int) fu) (q - (1 : UInt64)) (r + ((v.getD ((((v.length : Nat) : Int) - 1).toNat) 0).toUInt64))) → ∃ q' : UInt64, (gd (0 ≤ (32 : Int)) <|
    bif (decide ((0 : UInt64) < (shr64 (r + ((v.getD ((((v.length : Nat) : Int) - 1).toNat) 0).toUInt64)) 32))) then
     pdigit_j1 n (q - (1 : UInt64))
    else
     (pdigit_l1 n u v (j : Int) fu) (q - (1 : UInt64)) (r + ((v.getD ((((v.length : Nat) : Int) - 1).toNat) 0).toUInt64))) = some q' ∧ Q ≤ q'.toNat ∧ q'.toNat ≤ Q + 1 ∧ q'.toNat < 4294967296 := by
   intro hlt _
   have eq1 : (q - 1).toNat = q.toNat - 1 := by rw [u64_sub]; have := u64_lt q; show (18446744073709551616 - 1 + _) % _ = _; omega
   have hd := digit_dn huu (by omega)
   rw [gd_pos (by omega), e1]
   by_cases hb : 4294967296 ≤ r.toNat + (v.getD (v.length - 1) 0).toNat
   ·rw [ite_t (by simp only [decide_eq_true_eq, decide_eq_false_iff_not, UInt64.lt_iff_toNat_lt, esr, UInt64.toNat_zero]; omega)]
    have hqB : q.toNat - 1 < 4294967296 := by
     refine Nat.lt_of_not_le fun h => ?_
     have := Nat.mul_le_mul_right (v.getD (v.length - 1) 0).toNat h
     have := hD.t
     omega
    refine ⟨q - 1, rfl, by omega, ?_, by omega⟩
    rw [eq1]
    refine hD.hi _ (by omega) ?_
    have h6 : (q.toNat - 1) * (v.getD (v.length - 2) 0).toNat ≤ 4294967295 * 4294967295 := Nat.mul_le_mul (by omega) (by omega)
    rw [Nat.mul_add, ← Nat.mul_assoc]
    omega
   ·rw [ite_f (by simp only [decide_eq_true_eq, decide_eq_false_iff_not, UInt64.lt_iff_toNat_lt, esr, UInt64.toNat_zero]; omega)]
    exact ih (q - 1) _ (by omega) (by omega) (by omega) (by rw [eq1, er]; exact hd) (by rw [er]; omega)
  rw [pdigit_l1, gd_pos (by omega)]
  by_cases hqB : 4294967296 ≤ q.toNat
  ·rw [ite_t (by simp only [decide_eq_true_eq, decide_eq_false_iff_not, UInt64.lt_iff_toNat_lt, es, UInt64.toNat_zero]; omega)]
   exact down (by have := hD.b; omega) rfl
  ·rw [ite_f (by simp only [decide_eq_true_eq, decide_eq_false_iff_not, UInt64.lt_iff_toNat_lt, es, UInt64.toNat_zero]; omega), gd_pos (okI64 (by omega) (by omega)), gd_pos (by omega), gd_pos (by omega), gd_pos (by omega), gd_pos (okI64 (by omega) (by omega)), gd_pos (okI64 (by omega) (by omega)), gd_pos (by omega), gd_pos (by omega), e2, e3]
   have eo := shl64_or r (u.getD (j + v.length - 2) 0) hr
   have hqv : q.toNat * (v.getD (v.length - 2) 0).toNat ≤ 4294967295 * 4294967295 := Nat.mul_le_mul (by omega) (by omega)
   have em : (q * (v.getD (v.length - 2) 0).toUInt64).toNat = q.toNat * (v.getD (v.length - 2) 0).toNat := by rw [u64_mul, u64_32]; omega
   by_cases ht : r.toNat * 4294967296 + (u.getD (j + v.length - 2) 0).toNat < q.toNat * (v.getD (v.length - 2) 0).toNat
   ·rw [ite_t (by simp only [decide_eq_true_eq, UInt64.lt_iff_toNat_lt]; rw [eo, em]; exact ht)]
    refine down (hD.lo _ ?_) rfl
    rw [Nat.mul_add, ← Nat.mul_assoc]
    clear hqv em eo hD ih down
    generalize q.toNat * (v.getD (v.length - 1) 0).toNat = x at *
    generalize q.toNat * (v.getD (v.length - 2) 0).toNat = y at *
    exact dig_a huu ht
   ·rw [ite_f (by simp only [decide_eq_false_iff_not, UInt64.lt_iff_toNat_lt]; rw [eo, em]; exact ht)]
    refine ⟨q, rfl, hQ, hD.hi _ (by omega) ?_, by omega⟩
    rw [Nat.mul_add, ← Nat.mul_assoc]
    exact dig_b huu ht
theorem pdigit_is {n : Nat} (hn : 18446744073709551616 ≤ n) {u v : List UInt32} {j : Nat} (hv : 2 ≤ v.length) (hvl : v.length ≤ 100000) (hu : u.length ≤ 1000000) (hj : j + v.length < u.length) {Q : Nat}
  (hD : Dig (u.getD (j + v.length) 0).toNat (u.getD (j + v.length - 1) 0).toNat (u.getD (j + v.length - 2) 0).toNat (v.getD (v.length - 1) 0).toNat (v.getD (v.length - 2) 0).toNat Q) :
  ∃ q' : UInt64, pdigit n u v (j : Int) = some q' ∧ Q ≤ q'.toNat ∧ q'.toNat ≤ Q + 1 ∧ q'.toNat < 4294967296 := by
 have h1 := u32_lt (u.getD (j + v.length) 0)
 have h2 := u32_lt (u.getD (j + v.length - 1) 0)
 have h3 := u32_lt (u.getD (j + v.length - 2) 0)
 have h4 := u32_lt (v.getD (v.length - 1) 0)
 have h5 := u32_lt (v.getD (v.length - 2) 0)
 have e1 : (((v.length : Nat) : Int) - 1).toNat = v.length - 1 := by omega
 have e2 : ((((j : Nat) : Int) + ((v.length : Nat) : Int))).toNat = j + v.length := by omega
 have e3 : ((((j : Nat) : Int) + ((v.length : Nat) : Int)) - 1).toNat = j + v.length - 1 := by omega
 have hv1 := hD.v
 have h0 : ((v.getD (v.length - 1) 0).toUInt64) ≠ 0 := fun h => by have := congrArg UInt64.toNat h; rw [u64_32, UInt64.toNat_zero] at this; omega
 unfold pdigit
 rw [e1, e2, e3, gd_pos (okI64 (by omega) (by omega)), gd_pos (by omega), gd_pos (by omega), gd_pos (okI64 (by omega) (by omega)), gd_pos (by omega), gd_pos (by omega), gd_pos (by omega), gd_pos (okI64 (by omega) (by omega)), gd_pos (okI64 (by omega) (by omega)), gd_pos (by omega), gd_pos (by omega), gd_pos h0, gd_pos h0]
 have hx : ((u.getD (j + v.length) 0).toUInt64).toNat < 4294967296 := by rw [u64_32]; exact h1
 have es := shl64_or _ (u.getD (j + v.length - 1) 0) hx
 rw [u64_32] at es
 generalize hs : shl64 ((u.getD (j + v.length) 0).toUInt64) 32 ||| (u.getD (j + v.length - 1) 0).toUInt64 = s at *
 have ed : (s / (v.getD (v.length - 1) 0).toUInt64).toNat = s.toNat / (v.getD (v.length - 1) 0).toNat := by rw [UInt64.toNat_div, u64_32]
 have em : (s % (v.getD (v.length - 1) 0).toUInt64).toNat = s.toNat % (v.getD (v.length - 1) 0).toNat := by rw [UInt64.toNat_mod, u64_32]
 have hdm := Nat.mod_add_div s.toNat (v.getD (v.length - 1) 0).toNat
 have hml := Nat.mod_lt s.toNat (show 0 < (v.getD (v.length - 1) 0).toNat by omega)
 have hq1 : s.toNat / (v.getD (v.length - 1) 0).toNat ≤ 4294967297 := by
  refine Nat.le_of_lt_succ ?_
  rw [Nat.div_lt_iff_lt_mul (by omega)]
  have := hD.t
  omega
 refine pdigit_l1_is n u v j hv hvl hu hj Q hD n _ _ (by rw [ed]; omega) ?_ (by rw [ed]; exact hq1) (by rw [ed, em, Nat.mul_comm, Nat.add_comm]; rw [← es]; exact hdm) (by rw [em]; omega)
 rw [ed]
 refine Nat.le_of_lt_succ (hD.lo _ ?_)
 generalize s.toNat / (v.getD (v.length - 1) 0).toNat = q at *
 have h6 : s.toNat + 1 ≤ (q + 1) * (v.getD (v.length - 1) 0).toNat := by rw [Nat.add_mul, Nat.mul_comm q]; omega
 have h7 := Nat.mul_le_mul_right 4294967296 h6
 show _ < (q + 1) * _
 rw [Nat.mul_add, ← Nat.mul_assoc, ← es]
 omega
theorem ofInt32 (t : Int) : (UInt32.ofInt t).toNat = (t % 4294967296).toNat := by
 simp [UInt32.ofInt]; omega
theorem wrapI64 {x : Nat} (h : x < 9223372036854775808) : IntKind.i64.wrap (x : Int) = x := okI64 (by omega) (by omega)
theorem sub_step {u c p : Nat} (hu : u < 4294967296) (hc : c ≤ 4294967296) :
  ∃ d : Nat, d ≤ 2 ∧ (((u : Int) - (c : Int)) - ((p % 4294967296 : Nat) : Int)) / 2 ^ 32 = -(d : Int) ∧ u + d * 4294967296 = c + p % 4294967296 + (UInt32.ofInt (((u : Int) - (c : Int)) - ((p % 4294967296 : Nat) : Int))).toNat := by
 have hp : p % 4294967296 < 4294967296 := Nat.mod_lt _ (by decide)
 rw [ofInt32]
 generalize p % 4294967296 = x at *
 refine ⟨(-((((u : Int) - (c : Int)) - ((x : Nat) : Int)) / 2 ^ 32)).toNat, ?_, ?_, ?_⟩ <;> omega
structure Win (w w' : List UInt32) (j n : Nat) : Prop where
 len : w'.length = w.length
 lo : w'.take j = w.take j
 hi : w'.drop (j + n + 1) = w.drop (j + n + 1)
theorem Win.refl (w : List UInt32) (j n : Nat) : Win w w j n := ⟨rfl, rfl, rfl⟩
theorem Win.set {w w' : List UInt32} {j n : Nat} (h : Win w w' j n) {k : Nat} (x : UInt32) (h1 : j ≤ k) (h2 : k ≤ j + n) : Win w (w'.set k x) j n :=
 ⟨by rw [List.length_set]; exact h.len, by rw [List.take_set_of_le h1]; exact h.lo, by rw [List.drop_set_of_lt (by omega)]; exact h.hi⟩
theorem Win.eq {w w' : List UInt32} {j n : Nat} (h : Win w w' j n) (h0 : nV (w.drop (j + n + 1)) = 0) : nV w' = nV (w.take j) + 4294967296 ^ j * nV (w'.drop j) ∧ nV (w'.drop j) < 4294967296 ^ (n + 1) := by
 refine ⟨by rw [← h.lo]; exact V_split w' j, ?_⟩
 have h1 := V_split (w'.drop j) (n + 1)
 rw [List.drop_drop, show j + (n + 1) = j + n + 1 by omega, h.hi, h0] at h1
 have h2 := V_lt ((w'.drop j).take (n + 1))
 rw [List.length_take] at h2
 have h3 : 4294967296 ^ (min (n + 1) (w'.drop j).length) ≤ 4294967296 ^ (n + 1) := Nat.pow_le_pow_right (by decide) (by omega)
 omega
theorem pdivide_l2_is (n : Nat) (a b vf : List UInt32) (vl ul : Nat) (s : Int) (o : List UInt32) (r53 : List UInt32) (j : Nat) (q : UInt64) (K : List UInt32 → List UInt32 → Int → Option (List UInt32 × Nat × List UInt32 × Nat)) (u0 : List UInt32)
  (hbl : b.length ≤ 1000000) (hju : j + b.length < ul) (hul : ul ≤ 1000000) (h0 : u0.length = ul) (hq : q.toNat < 4294967296) (hvl : ((vf.drop 0).take b.length).length = b.length) :
  ∀ (m i fu : Nat) (w : List UInt32) (c : Nat), i + m = b.length → m < fu → Win u0 w j b.length → c ≤ 4294967296 → (∀ k, j + i ≤ k → w.getD k 0 = u0.getD k 0) →
  nV w + 4294967296 ^ j * (q.toNat * nV (((vf.drop 0).take b.length).take i)) = nV u0 + 4294967296 ^ (j + i) * c →
  ∃ (w' : List UInt32) (t : Bool), Win u0 w' j b.length ∧ nV w' + 4294967296 ^ j * (q.toNat * nV ((vf.drop 0).take b.length)) = nV u0 + (if t then 4294967296 ^ (j + b.length + 1) else 0) ∧
  pdivide_l2 n a b s (vf, vl) (r53, ul) o (j : Int) q K fu w (c : Int) (i : Int) = (bif t then pdivide_l3 n a b s (vf, vl) (r53, ul) o (j : Int) q K n w' 0 0 else pdivide_j1 n a b s (vf, vl) (r53, ul) o (j : Int) K w' q) := by
 generalize hv : ((vf.drop 0).take b.length) = v at *
 intro m
 induction m with
 | zero =>
  intro i fu w c hi hf hw hc hs hr
  cases fu with
  | zero => omega
  | succ fu =>
   have hwl := hw.len
   have e1 : ((j : Int) + ((b.length : Nat) : Int)).toNat = j + b.length := by omega
   have hU := u32_lt (w.getD (j + b.length) 0)
   rw [List.take_of_length_le (by omega), show i = b.length by omega] at hr
   rw [pdivide_l2, ite_f (by simp; omega), e1, gd_pos (okI64 (by omega) (by omega)), gd_pos (by omega), gd_pos (by show (j : Int) + _ < (ul : Int); omega), gd_pos (okI64 (by omega) (by omega)), gd_pos (okI64 (by omega) (by omega)), gd_pos (by omega), gd_pos (by show (j : Int) + _ < (ul : Int); omega)]
   have hV := V_set w (j + b.length) (UInt32.ofInt ((((w.getD (j + b.length) 0).toNat : Nat) : Int) - (c : Int))) (by omega)
   have e2 := ofInt32 ((((w.getD (j + b.length) 0).toNat : Nat) : Int) - (c : Int))
   generalize UInt32.ofInt ((((w.getD (j + b.length) 0).toNat : Nat) : Int) - (c : Int)) = x at *
   generalize (w.getD (j + b.length) 0).toNat = u at *
   by_cases ht : u < c
   ·refine ⟨w.set (j + b.length) x, true, hw.set _ (by omega) (by omega), ?_, ?_⟩
    ·have e3 : x.toNat + c = u + 4294967296 := by omega
     rw [if_pos rfl, pow1]
     generalize 4294967296 ^ (j + b.length) = p at *
     have : p * (x.toNat + c) = p * (u + 4294967296) := by rw [e3]
     grind
    ·rw [ite_t (by simp; omega)]; rfl
   ·refine ⟨w.set (j + b.length) x, false, hw.set _ (by omega) (by omega), ?_, ?_⟩
    ·have e3 : x.toNat + c = u := by omega
     rw [if_neg (by decide)]
     generalize 4294967296 ^ (j + b.length) = p at *
     have : p * (x.toNat + c) = p * u := by rw [e3]
     grind
    ·rw [ite_f (by simp; omega)]; rfl
 | succ m ih =>
  intro i fu w c hi hf hw hc hs hr
  cases fu with
  | zero => omega
  | succ fu =>
   have hwl := hw.len
   have e1 : ((i : Int) + (j : Int)).toNat = j + i := by omega
   have hU := u32_lt (w.getD (j + i) 0)
   have hX := u32_lt (v.getD i 0)
   have hqv : q.toNat * (v.getD i 0).toNat ≤ 4294967295 * 4294967295 := Nat.mul_le_mul (by omega) (by omega)
   have em : (q * (v.getD i 0).toUInt64).toNat = q.toNat * (v.getD i 0).toNat := by rw [u64_mul, u64_32]; omega
   have em2 : (q * (v.getD i 0).toUInt64).toUInt32.toNat = q.toNat * (v.getD i 0).toNat % 4294967296 := by rw [u32_64, em]
   have es : (shr64 (q * (v.getD i 0).toUInt64) 32).toNat = q.toNat * (v.getD i 0).toNat / 4294967296 := by rw [← em]; exact shr64_is _ 32 (by decide)
   rw [pdivide_l2, ite_t (by simp; omega)]
   simp only [Int.toNat_natCast, hv, e1]
   generalize hxx : q * (v.getD i 0).toUInt64 = pq at *
   obtain ⟨d, hd2, hd, hud⟩ := sub_step (u := (w.getD (j + i) 0).toNat) (c := c) (p := q.toNat * (v.getD i 0).toNat) hU hc
   rw [em2, es, hd]
   have hql : q.toNat * (v.getD i 0).toNat / 4294967296 ≤ 4294967294 := by omega
   rw [wrapI64 (by omega)]
   have e4 : (((q.toNat * (v.getD i 0).toNat / 4294967296 : Nat) : Int) - -(d : Int)) = ((q.toNat * (v.getD i 0).toNat / 4294967296 + d : Nat) : Int) := by omega
   rw [e4, gd_pos (by omega), gd_pos (by omega), gd_pos (okI64 (by omega) (by omega)), gd_pos (by omega), gd_pos (by show _ < (ul : Int); omega), gd_pos (okI64 (by omega) (by omega)), gd_pos (okI64 (by omega) (by omega)), gd_pos (okI64 (by omega) (by omega)), gd_pos (by omega), gd_pos (by omega), gd_pos (by decide), gd_pos (okI64 (by omega) (by omega)), gd_pos (by omega), gd_pos (by show _ < (ul : Int); omega), gd_pos (okI64 (by omega) (by omega))]
   have hV := V_set w (j + i) (UInt32.ofInt ((((w.getD (j + i) 0).toNat : Nat) : Int) - (c : Int) - ((q.toNat * (v.getD i 0).toNat % 4294967296 : Nat) : Int))) (by omega)
   generalize UInt32.ofInt ((((w.getD (j + i) 0).toNat : Nat) : Int) - (c : Int) - ((q.toNat * (v.getD i 0).toNat % 4294967296 : Nat) : Int)) = x at *
   have hc' : q.toNat * (v.getD i 0).toNat / 4294967296 + d ≤ 4294967296 := by omega
   refine ih (i + 1) fu (w.set (j + i) x) _ (by omega) (by omega) (hw.set _ (by omega) (by omega)) hc' ?_ ?_
   ·intro k hk
    rw [getD_set_ne _ _ (by omega)]; exact hs k (by omega)
   ·rw [V_take', show j + (i + 1) = (j + i) + 1 by omega, pow1]
    have hdm := Nat.mod_add_div (q.toNat * (v.getD i 0).toNat) 4294967296
    rw [Nat.pow_add] at *
    generalize (w.getD (j + i) 0).toNat = u at *
    generalize (v.getD i 0).toNat = y at *
    generalize q.toNat * y % 4294967296 = f at *
    generalize q.toNat * y / 4294967296 = g at *
    generalize 4294967296 ^ j = p at *
    generalize 4294967296 ^ i = r at *
    clear ih es em em2 hqv hs hd e4 hql hc' hxx
    have k1 : p * r * (u + d * 4294967296) = p * r * (c + f + x.toNat) := by rw [hud]
    grind
theorem pdivide_l3_is (n : Nat) (a b vf : List UInt32) (vl ul : Nat) (s : Int) (o : List UInt32) (r53 : List UInt32) (j : Nat) (q : UInt64) (K : List UInt32 → List UInt32 → Int → Option (List UInt32 × Nat × List UInt32 × Nat)) (u0 : List UInt32)
  (hbl : b.length ≤ 1000000) (hju : j + b.length < ul) (hul : ul ≤ 1000000) (h0 : u0.length = ul) (hvl : ((vf.drop 0).take b.length).length = b.length) :
  ∀ (m i fu : Nat) (w : List UInt32) (c : UInt64), i + m = b.length → m < fu → Win u0 w j b.length → c.toNat ≤ 1 →
  nV w + 4294967296 ^ (j + i) * c.toNat = nV u0 + 4294967296 ^ j * nV (((vf.drop 0).take b.length).take i) →
  ∃ (w' : List UInt32) (e : Nat), Win u0 w' j b.length ∧ nV w' + 4294967296 ^ (j + b.length + 1) * e = nV u0 + 4294967296 ^ j * nV ((vf.drop 0).take b.length) ∧
  pdivide_l3 n a b s (vf, vl) (r53, ul) o (j : Int) q K fu w c (i : Int) = pdivide_j1 n a b s (vf, vl) (r53, ul) o (j : Int) K w' (q - 1) := by
 generalize hv : ((vf.drop 0).take b.length) = v at *
 intro m
 induction m with
 | zero =>
  intro i fu w c hi hf hw hc hr
  cases fu with
  | zero => omega
  | succ fu =>
   have hwl := hw.len
   have e1 : ((j : Int) + ((b.length : Nat) : Int)).toNat = j + b.length := by omega
   have hU := u32_lt (w.getD (j + b.length) 0)
   rw [List.take_of_length_le (by omega), show i = b.length by omega] at hr
   have hV := V_set w (j + b.length) (w.getD (j + b.length) 0 + c.toUInt32) (by omega)
   have hx : (w.getD (j + b.length) 0 + c.toUInt32).toNat = ((w.getD (j + b.length) 0).toNat + c.toNat) % 4294967296 := by rw [UInt32.toNat_add, u32_64]; omega
   refine ⟨w.set (j + b.length) (w.getD (j + b.length) 0 + c.toUInt32), ((w.getD (j + b.length) 0).toNat + c.toNat) / 4294967296, hw.set _ (by omega) (by omega), ?_, ?_⟩
   ·rw [pow1]
    rw [hx] at hV
    have hdm := Nat.mod_add_div ((w.getD (j + b.length) 0).toNat + c.toNat) 4294967296
    generalize ((w.getD (j + b.length) 0).toNat + c.toNat) % 4294967296 = f at *
    generalize ((w.getD (j + b.length) 0).toNat + c.toNat) / 4294967296 = g at *
    generalize 4294967296 ^ (j + b.length) = p at *
    grind
   ·rw [pdivide_l3, ite_f (by simp; omega), e1, gd_pos (okI64 (by omega) (by omega)), gd_pos (by omega), gd_pos (by show (j : Int) + _ < (ul : Int); omega), gd_pos (by omega), gd_pos (by show (j : Int) + _ < (ul : Int); omega)]
 | succ m ih =>
  intro i fu w c hi hf hw hc hr
  cases fu with
  | zero => omega
  | succ fu =>
   have hwl := hw.len
   have e1 : ((i : Int) + (j : Int)).toNat = j + i := by omega
   have hU := u32_lt (w.getD (j + i) 0)
   have hX := u32_lt (v.getD i 0)
   rw [pdivide_l3, ite_t (by simp; omega)]
   simp only [Int.toNat_natCast, hv, e1]
   rw [gd_pos (okI64 (by omega) (by omega)), gd_pos (by omega), gd_pos (by show _ < (ul : Int); omega), gd_pos (by omega), gd_pos (by omega), gd_pos (okI64 (by omega) (by omega)), gd_pos (by omega), gd_pos (by omega), gd_pos (by show _ < (ul : Int); omega), gd_pos (okI64 (by omega) (by omega))]
   generalize hsx : c + ((w.getD (j + i) 0).toUInt64 + (v.getD i 0).toUInt64) = x
   have es : x.toNat = c.toNat + ((w.getD (j + i) 0).toNat + (v.getD i 0).toNat) := by rw [← hsx, u64_add, u64_add, u64_32, u64_32]; omega
   have ec : (shr64 x 32).toNat = x.toNat / 4294967296 := shr64_is x 32 (by decide)
   have hV := V_set w (j + i) x.toUInt32 (by omega)
   refine ih (i + 1) fu (w.set (j + i) x.toUInt32) _ (by omega) (by omega) (hw.set _ (by omega) (by omega)) (by rw [ec]; omega) ?_
   rw [V_take', show j + (i + 1) = (j + i) + 1 by omega, pow1, ec]
   rw [u32_64] at hV
   have hdm := Nat.mod_add_div x.toNat 4294967296
   rw [Nat.pow_add] at *
   generalize x.toNat % 4294967296 = f at *
   generalize x.toNat / 4294967296 = g at *
   generalize 4294967296 ^ j = p at *
   generalize 4294967296 ^ i = r at *
   clear ih ec hsx
   grind
theorem bpow_pos (i : Nat) : 0 < 4294967296 ^ i := Nat.pow_pos (by decide)
theorem qr_of {W V q r : Nat} (h : r + q * V = W) (hr : r < V) : q = W / V ∧ r = W % V := by
 constructor
 ·rw [← h, Nat.add_mul_div_right _ _ (by omega), Nat.div_eq_of_lt hr, Nat.zero_add]
 ·rw [← h, Nat.add_mul_mod_self_right, Nat.mod_eq_of_lt hr]
theorem top_v {v : List UInt32} (h : 2 ≤ v.length) : nV v = ((v.getD (v.length - 1) 0).toNat * 4294967296 + (v.getD (v.length - 2) 0).toNat) * 4294967296 ^ (v.length - 2) + nV (v.take (v.length - 2)) := by
 have h1 := V_split v (v.length - 2)
 have h2 := V_drop v (v.length - 2) (by omega)
 have h3 := V_drop v (v.length - 2 + 1) (by omega)
 rw [List.drop_of_length_le (l := v) (i := v.length - 2 + 1 + 1) (by omega), V_nil, show v.length - 2 + 1 = v.length - 1 by omega] at h3
 rw [show v.length - 2 + 1 = v.length - 1 by omega] at h2
 rw [h1, h2, h3]; grind
theorem top_w {w : List UInt32} {i k : Nat} (h : 2 ≤ k) (hk : i + k < w.length) (h0 : nV (w.drop (i + k + 1)) = 0) : nV (w.drop i) = (((w.getD (i + k) 0).toNat * 4294967296 + (w.getD (i + k - 1) 0).toNat) * 4294967296 + (w.getD (i + k - 2) 0).toNat) * 4294967296 ^ (k - 2) + nV ((w.drop i).take (k - 2)) := by
 have h1 := V_split (w.drop i) (k - 2)
 rw [List.drop_drop, show i + (k - 2) = i + k - 2 by omega] at h1
 have h2 := V_drop w (i + k - 2) (by omega)
 have h3 := V_drop w (i + k - 1) (by omega)
 have h4 := V_drop w (i + k) (by omega)
 rw [show i + k - 2 + 1 = i + k - 1 by omega] at h2
 rw [show i + k - 1 + 1 = i + k by omega] at h3
 rw [h0] at h4
 rw [h1, h2, h3, h4]; grind
theorem cancel_pow {p x y : Nat} (hp : 0 < p) (h : p * x = p * y) : x = y := Nat.eq_of_mul_eq_mul_left hp h
theorem div_step {n : Nat} (hn : 18446744073709551616 ≤ n) (a b vf : List UInt32) (vl ul : Nat) (s : Int) (o : List UInt32) (r53 : List UInt32) (i : Nat) (K : List UInt32 → List UInt32 → Int → Option (List UInt32 × Nat × List UInt32 × Nat)) (w : List UInt32)
  (hb2 : 2 ≤ b.length) (hbl : b.length ≤ 100000) (hju : i + b.length < ul) (hul : ul ≤ 1000000) (h0 : w.length = ul) (hvl : ((vf.drop 0).take b.length).length = b.length)
  (hn1 : 2147483648 ≤ (((vf.drop 0).take b.length).getD (b.length - 1) 0).toNat) (hw : nV (w.drop (i + 1)) < nV ((vf.drop 0).take b.length)) :
  ∃ (w' : List UInt32) (q : UInt64), w'.length = ul ∧ nV (w'.drop i) < nV ((vf.drop 0).take b.length) ∧ q.toNat < 4294967296 ∧ nV w' + 4294967296 ^ i * q.toNat * nV ((vf.drop 0).take b.length) = nV w ∧
  ((pdigit n w ((vf.drop 0).take b.length) (i : Int)).bind fun r71_2 => pdivide_l2 n a b s (vf, vl) (r53, ul) o (i : Int) r71_2 K n w 0 0) = pdivide_j1 n a b s (vf, vl) (r53, ul) o (i : Int) K w' q := by
 have L2 := pdivide_l2_is n a b vf vl ul s o r53 i
 have L3 := pdivide_l3_is n a b vf vl ul s o r53 i
 generalize hv : ((vf.drop 0).take b.length) = v at *
 have tv := top_v (v := v) (by omega)
 have lv := V_lt v
 have lvl := V_lt (v.take (v.length - 2))
 rw [List.length_take, Nat.min_eq_left (by omega)] at lvl
 have hWd := V_drop w i (by omega)
 have hwi := u32_lt (w.getD i 0)
 have hWB : nV (w.drop i) < 4294967296 * nV v := by
  have : 4294967296 * (nV (w.drop (i + 1)) + 1) ≤ 4294967296 * nV v := Nat.mul_le_mul_left _ hw
  omega
 have hz : nV (w.drop (i + b.length + 1)) = 0 := by
  have h1 := V_split (w.drop i) (b.length + 1)
  rw [List.drop_drop, show i + (b.length + 1) = i + b.length + 1 by omega, pow1] at h1
  rw [hvl] at lv
  cases Nat.eq_zero_or_pos (nV (w.drop (i + b.length + 1))) with
  | inl h => exact h
  | inr h =>
   have := Nat.mul_le_mul_left (4294967296 * 4294967296 ^ b.length) h
   omega
 have tw := top_w (w := w) (i := i) hb2 (by omega) hz
 have lul := V_lt ((w.drop i).take (b.length - 2))
 rw [List.length_take] at lul
 have lul' : nV ((w.drop i).take (b.length - 2)) < 4294967296 ^ (b.length - 2) := Nat.lt_of_lt_of_le lul (Nat.pow_le_pow_right (by decide) (by omega))
 rw [hvl] at tv lvl
 have hv2 := u32_lt (v.getD (b.length - 2) 0)
 have hD := dig_of (p := 4294967296 ^ (b.length - 2)) lul' lvl hn1 hv2 (by rw [← tw, ← tv]; exact hWB)
 rw [← tw, ← tv] at hD
 have hVpos : 0 < nV v := by omega
 obtain ⟨q, hq, hQ1, hQ2, hqB⟩ := pdigit_is hn (u := w) (v := v) (j := i) (by omega) (by omega) (by omega) (by omega) (Q := nV (w.drop i) / nV v) (by rw [hvl]; exact hD)
 rw [hq]
 simp only [Option.bind_some]
 obtain ⟨w1, t, hW1, he1, hr1⟩ := L2 q K w (by omega) hju hul h0 hqB hvl b.length 0 n w 0 (by omega) (by omega) (Win.refl _ _ _) (by decide) (fun _ _ => rfl) (by simp [V_nil])
 have hr1' : pdivide_l2 n a b s (vf, vl) (r53, ul) o (i : Int) q K n w 0 0 = _ := hr1
 rw [hr1']
 have hm := Nat.mod_add_div (nV (w.drop i)) (nV v)
 have hml := Nat.mod_lt (nV (w.drop i)) hVpos
 have hws := V_split w i
 obtain ⟨hk1, hk2⟩ := hW1.eq hz
 have hp := bpow_pos i
 cases t with
 | false =>
  have hx : nV (w1.drop i) + q.toNat * nV v = nV (w.drop i) := by
   refine cancel_pow hp ?_
   rw [if_neg (by decide)] at he1
   rw [Nat.mul_add]; omega
  have hqq : q.toNat = nV (w.drop i) / nV v := by
   refine Nat.le_antisymm ?_ hQ1
   rw [Nat.le_div_iff_mul_le hVpos]; omega
  refine ⟨w1, q, by rw [hW1.len]; exact h0, ?_, hqB, ?_, rfl⟩
  ·rw [hqq, Nat.mul_comm] at hx; omega
  ·rw [hk1, hws, ← hx]; grind
 | true =>
  have hx : nV (w1.drop i) + q.toNat * nV v = nV (w.drop i) + 4294967296 ^ (b.length + 1) := by
   refine cancel_pow hp ?_
   rw [if_pos rfl, show i + b.length + 1 = i + (b.length + 1) by omega, Nat.pow_add] at he1
   rw [Nat.mul_add, Nat.mul_add]; omega
  have hqq : q.toNat = nV (w.drop i) / nV v + 1 := by
   refine Nat.le_antisymm hQ2 ?_
   show _ < q.toNat
   rw [Nat.div_lt_iff_lt_mul hVpos]; omega
  obtain ⟨w2, e, hW2, he2, hr2⟩ := L3 q K w1 (by omega) hju hul (by rw [hW1.len]; exact h0) hvl b.length 0 n w1 0 (by omega) (by omega) (Win.refl _ _ _) (by decide) (by simp [V_nil])
  have hr2' : pdivide_l3 n a b s (vf, vl) (r53, ul) o (i : Int) q K n w1 0 0 = _ := hr2
  have hz1 : nV (w1.drop (i + b.length + 1)) = 0 := by rw [hW1.hi]; exact hz
  obtain ⟨hk3, hk4⟩ := hW2.eq hz1
  rw [hW1.lo] at hk3
  have hy : nV (w2.drop i) + 4294967296 ^ (b.length + 1) * e = nV (w1.drop i) + nV v := by
   refine cancel_pow hp ?_
   rw [show i + b.length + 1 = i + (b.length + 1) by omega, Nat.pow_add] at he2
   rw [Nat.mul_add, Nat.mul_add, ← Nat.mul_assoc]; omega
  have hq0 : 0 < q.toNat := by rw [hqq]; exact Nat.succ_pos _
  have hq1 : (q - 1).toNat = q.toNat - 1 := by rw [u64_sub]; have := u64_lt q; show (18446744073709551616 - 1 + _) % _ = _; omega
  rw [hqq, Nat.add_mul, Nat.mul_comm (_ / _)] at hx
  have hg : nV (w1.drop i) + nV v = nV (w.drop i) % nV v + 4294967296 ^ (b.length + 1) := by omega
  have he : e = 1 := by
   rw [hg] at hy
   rw [hvl] at lv
   rw [pow1] at *
   generalize 4294967296 ^ b.length = p at *
   cases e with
   | zero => omega
   | succ e =>
    cases e with
    | zero => rfl
    | succ e =>
     have : 4294967296 * p * 2 ≤ 4294967296 * p * (e + 1 + 1) := Nat.mul_le_mul_left _ (by omega)
     omega
  rw [he, Nat.mul_one] at hy
  have hr : nV (w2.drop i) = nV (w.drop i) % nV v := by omega
  refine ⟨w2, q - 1, by rw [hW2.len, hW1.len]; exact h0, by rw [hr]; exact hml, by rw [hq1]; exact Nat.lt_of_le_of_lt (Nat.sub_le _ _) hqB, ?_, by rw [ite_t rfl]; exact hr2'⟩
  rw [hk3, hws, hr, hq1, hqq, Nat.add_sub_cancel]
  generalize nV (w.drop i) % nV v = x at *
  generalize nV (w.drop i) / nV v = y at *
  generalize 4294967296 ^ i = p at *
  rw [← hm]; grind
theorem or_shl (x y : UInt32) (s : Nat) (hs : s < 32) : (shr32 x (s : Int) ||| (shl64 y.toUInt64 (32 - (s : Int))).toUInt32).toNat * 2 ^ s + x.toNat % 2 ^ s = x.toNat + 4294967296 * (y.toNat % 2 ^ s) := by
 have hX := u32_lt x
 have hp : 0 < 2 ^ s := Nat.pow_pos (by decide)
 have e0 : (32 : Int) - (s : Int) = ((32 - s : Nat) : Int) := by omega
 have e1 : (4294967296 : Nat) = 2 ^ (32 - s) * 2 ^ s := by rw [← Nat.pow_add, show 32 - s + s = 32 by omega]
 have e2 : y.toNat * 2 ^ (32 - s) % 4294967296 = (y.toNat % 2 ^ s) * 2 ^ (32 - s) := by
  rw [e1, Nat.mul_comm (2 ^ (32 - s)), Nat.mul_mod_mul_right]
 have hlt : x.toNat / 2 ^ s < 2 ^ (32 - s) := by rw [Nat.div_lt_iff_lt_mul hp, ← e1]; exact hX
 rw [UInt32.toNat_or, shr32_is _ _ hs, u32_64, e0, shr_shl _ _ (by omega), e2, Nat.or_comm, ← Nat.shiftLeft_eq (y.toNat % 2 ^ s), ← Nat.shiftLeft_add_eq_or_of_lt hlt, Nat.shiftLeft_eq]
 have hd := Nat.mod_add_div x.toNat (2 ^ s)
 generalize x.toNat % 2 ^ s = f at *
 generalize x.toNat / 2 ^ s = g at *
 generalize y.toNat % 2 ^ s = h at *
 rw [e1]
 generalize 2 ^ s = p at *
 generalize 2 ^ (32 - s) = r at *
 clear hlt e1 e2
 grind
theorem pdivide_l4_is {n : Nat} (hn : 18446744073709551616 ≤ n) (a b : List UInt32) (s : Nat) (hs : s < 32) (r53 : List UInt32) (ul : Nat) (o : List UInt32) (R : Nat) (w0 : List UInt32) (h0 : w0.length = ul) (hul : ul ≤ 1000000) (hb : b.length < ul) (ho : o.length ≤ 1000000) (hV : nV w0 = 2 ^ s * R) (hlt : nV w0 < 4294967296 ^ b.length) :
  ∀ (m i fu : Nat) (w : List UInt32), i + m = b.length → m < fu → w.length = ul → (∀ k, i ≤ k → w.getD k 0 = w0.getD k 0) → 2 ^ s * nV (w.take i) + (w0.getD 0 0).toNat % 2 ^ s = nV (w0.take i) + 4294967296 ^ i * ((w0.getD i 0).toNat % 2 ^ s) →
  pdivide_l4 n a b (s : Int) (r53, ul) o fu w (i : Int) = some (nD (nV o), (nD (nV o)).length, nD R, (nD R).length) := by
 have hp : 0 < 2 ^ s := Nat.pow_pos (by decide)
 intro m
 induction m with
 | zero =>
  intro i fu w hi hf hw hs' hr
  cases fu with
  | zero => omega
  | succ fu =>
   obtain rfl : i = b.length := by omega
   have h1 := V_split w0 b.length
   have h2 := V_drop w0 b.length (by omega)
   have hB := bpow_pos b.length
   have h3 : nV (w0.drop b.length) = 0 := by
    cases Nat.eq_zero_or_pos (nV (w0.drop b.length)) with
    | inl h => exact h
    | inr h => have := Nat.mul_le_mul_left (4294967296 ^ b.length) h; omega
   have h4 : (w0.getD b.length 0).toNat = 0 := by omega
   rw [h3, Nat.mul_zero, Nat.add_zero] at h1
   rw [h4, Nat.zero_mod, Nat.mul_zero, Nat.add_zero, ← h1, hV] at hr
   have hc := Nat.mod_lt (w0.getD 0 0).toNat hp
   have hR : nV (w.take b.length) = R := by
    have k1 : nV (w.take b.length) ≤ R := Nat.le_of_mul_le_mul_left (by omega) hp
    refine Nat.le_antisymm k1 (Nat.le_of_not_lt fun h => ?_)
    have := Nat.mul_le_mul_left (2 ^ s) (show nV (w.take b.length) + 1 ≤ R from h)
    rw [Nat.mul_add] at this
    omega
   rw [pdivide_l4, ite_f (by simp), ptrim_is hn (by omega)]
   simp only [Option.bind_some]
   rw [gd_pos (by omega), gd_pos (by show _ ≤ (ul : Int); omega), Int.toNat_natCast, List.drop_zero, ptrim_is hn (by simp; omega)]
   simp only [Option.bind_some]
   rw [hR]
   have ht := tk (a := w.take b.length) (by simp; omega)
   have hk := D_le (a := w.take b.length)
   rw [hR, List.length_take] at hk
   rw [hR, List.drop_zero, List.take_take, Nat.min_eq_left (by omega)] at ht
   have ht2 := tk ho
   rw [List.drop_zero] at ht2
   simp only [List.drop_zero, ht, ht2]
 | succ m ih =>
  intro i fu w hi hf hw hs' hr
  cases fu with
  | zero => omega
  | succ fu =>
   have e1 : ((i : Int) + 1).toNat = i + 1 := by omega
   rw [pdivide_l4, ite_t (by simp; omega), e1, Int.toNat_natCast, gd_pos (by omega), gd_pos (by show _ < (ul : Int); omega), gd_pos (by omega), gd_pos (okI64 (by omega) (by omega)), gd_pos (by omega), gd_pos (by show _ < (ul : Int); omega), gd_pos (okI64 (by omega) (by omega)), gd_pos (by omega), gd_pos (by omega), gd_pos (by show _ < (ul : Int); omega), gd_pos (okI64 (by omega) (by omega))]
   rw [hs' i (by omega), hs' (i + 1) (by omega)]
   have ho := or_shl (w0.getD i 0) (w0.getD (i + 1) 0) s hs
   generalize shr32 (w0.getD i 0) (s : Int) ||| (shl64 (w0.getD (i + 1) 0).toUInt64 (32 - (s : Int))).toUInt32 = x at *
   refine ih (i + 1) fu (w.set i x) (by omega) (by omega) (by rw [List.length_set]; exact hw) ?_ ?_
   ·intro k hk
    rw [getD_set_ne _ _ (by omega)]; exact hs' k (by omega)
   ·rw [V_take', V_take', List.take_set_of_le (Nat.le_refl _), getD_set_eq _ _ (by omega), pow1]
    clear ih hs' hV hlt hp
    generalize 4294967296 ^ i = p at *
    generalize (w0.getD (i + 1) 0).toNat % 2 ^ s = c at *
    generalize (w0.getD i 0).toNat % 2 ^ s = d at *
    have k1 : p * (x.toNat * 2 ^ s + d) = p * ((w0.getD i 0).toNat + 4294967296 * c) := by rw [ho]
    grind
theorem pdivide_l1_is {n : Nat} (hn : 18446744073709551616 ≤ n) (a b vf : List UInt32) (vl : Nat) (s : Nat) (r53 : List UInt32) (X Y : Nat) (hs : s < 32)
  (hb2 : 2 ≤ b.length) (hba : b.length ≤ a.length) (hal : a.length ≤ 100000) (hvl : ((vf.drop 0).take b.length).length = b.length)
  (hn1 : 2147483648 ≤ (((vf.drop 0).take b.length).getD (b.length - 1) 0).toNat) (hV : nV ((vf.drop 0).take b.length) = 2 ^ s * Y) :
  ∀ (j fu : Nat) (w o : List UInt32), j < fu → j ≤ a.length - b.length + 1 → w.length = a.length + 1 → o.length = a.length - b.length + 1 → (∀ k, k < j → o.getD k 0 = 0) → nV (w.drop j) < 2 ^ s * Y → nV w + nV o * (2 ^ s * Y) = 2 ^ s * X →
  pdivide_l1 n a b (s : Int) (vf, vl) (r53, a.length + 1) fu w o ((j : Int) - 1) = some (nD (X / Y), (nD (X / Y)).length, nD (X % Y), (nD (X % Y)).length) := by
 have hp : 0 < 2 ^ s := Nat.pow_pos (by decide)
 intro j
 induction j with
 | zero =>
  intro fu w o hf hj hw ho hz hl he
  cases fu with
  | zero => omega
  | succ fu =>
   rw [List.drop_zero] at hl
   have lv := V_lt ((vf.drop 0).take b.length)
   rw [hV, hvl] at lv
   have hY : 0 < Y := Nat.pos_of_ne_zero fun h => by rw [h] at hl; omega
   have hwq : nV o = X / Y ∧ nV w = 2 ^ s * (X % Y) := by
    have hx := Nat.mod_add_div X Y
    have hq := qr_of he hl
    rw [hq.1, hq.2]
    exact ⟨Nat.mul_div_mul_left _ _ hp, Nat.mul_mod_mul_left _ _ _⟩
   have := pdivide_l4_is hn a b s hs r53 (a.length + 1) o (X % Y) w hw (by omega) (by omega) (by omega) hwq.2 (by omega) b.length 0 n w (by omega) (by omega) hw (fun _ _ => rfl) (by simp [V_nil])
   rw [pdivide_l1, ite_f (by simp), ← hwq.1]
   exact this
 | succ j ih =>
  intro fu w o hf hj hw ho hz hl he
  cases fu with
  | zero => omega
  | succ fu =>
   rw [show ((j + 1 : Nat) : Int) - 1 = (j : Int) by omega, pdivide_l1, ite_t (by simp)]
   obtain ⟨w', q, h1, h2, h3, h4, h5⟩ := div_step hn a b vf vl (a.length + 1) (s : Int) o r53 j (pdivide_l1 n a b (s : Int) (vf, vl) (r53, a.length + 1) fu) w hb2 (by omega) (by omega) (by omega) hw hvl hn1 (by rw [hV]; exact hl)
   rw [hV] at h2 h4
   have ho1 := V_set o j q.toUInt32 (by omega)
   rw [hz j (by omega), u32_64, Nat.mod_eq_of_lt h3] at ho1
   simp only [UInt32.toNat_zero, Nat.mul_zero, Nat.add_zero] at ho1
   simp only [Int.toNat_natCast]
   rw [h5]
   unfold pdivide_j1
   rw [gd_pos (by omega), gd_pos (by omega), gd_pos (okI64 (by omega) (by omega)), Int.toNat_natCast]
   refine ih fu w' (o.set j q.toUInt32) (by omega) (by omega) h1 (by rw [List.length_set]; exact ho) ?_ h2 ?_
   ·intro k hk
    rw [getD_set_ne _ _ (by omega)]; exact hz k (by omega)
   ·rw [ho1, Nat.add_mul]; omega
theorem D_last {y : Nat} (hy : y ≠ 0) : (nD y).length ≠ 0 ∧ ((nD y).getD ((nD y).length - 1) 0).toNat ≠ 0 := by
 have h1 : (nD y).length ≠ 0 := fun h => by
  have := (D_len y 0).1 (by omega)
  simp at this; omega
 refine ⟨h1, fun h => ?_⟩
 have h2 := wpos h1
 rw [h, V_D] at h2
 have h3 := V_lt ((nD y).take ((nD y).length - 1))
 rw [List.length_take, Nat.min_eq_left (by omega)] at h3
 have := (D_len y ((nD y).length - 1)).2 (by omega)
 omega
theorem pdivide_D {n : Nat} (hn : 18446744073709551616 ≤ n) {x y : Nat} (hx : (nD x).length ≤ 90000) (hyl : (nD y).length ≤ 90000) (hy : y ≠ 0) :
  pdivide n (nD x) (nD y) = some (nD (x / y), (nD (x / y)).length, nD (x % y), (nD (x % y)).length) := by
 obtain ⟨hl0, hlast⟩ := D_last hy
 unfold pdivide
 rw [pCmp_D hn (by omega) (by omega)]
 simp only [Option.bind_some]
 by_cases hlt : x < y
 ·rw [ite_t (by simp [cmpN_neg, hlt]), gd_pos (by omega), Nat.div_eq_of_lt hlt, Nat.mod_eq_of_lt hlt, D_zero]; rfl
 ·have hxy := D_mono (Nat.le_of_not_lt hlt)
  rw [ite_f (by simp only [decide_eq_false_iff_not, cmpN_neg]; exact hlt)]
  by_cases h1 : (nD y).length = 1
  ·have hb : nV (nD y) = ((nD y).getD 0 0).toNat := by
    have := wpos hl0
    rw [h1] at this
    simpa [V_nil] using this
   rw [V_D] at hb
   rw [ite_t (by simp; omega), gd_pos (by omega), gd_pos (by omega), pshort_is hn (by omega) (by omega), V_D, ← hb]; rfl
  ·rw [ite_f (by simp; omega)]
   have e1 : ((((nD y).length : Nat) : Int) - 1).toNat = (nD y).length - 1 := by omega
   rw [e1, gd_pos (okI64 (by omega) (by omega)), gd_pos (by omega), gd_pos (by omega)]
   obtain ⟨s, hs, hs1, hs2, hs3⟩ := bclz32_is n _ hlast
   obtain ⟨vf, hvf, hvl, hvv⟩ := pshift_is hn (a := nD y) hs (by omega)
   obtain ⟨uf, huf, hul, huv⟩ := pshift_is hn (a := nD x) hs (by omega)
   rw [hs3]
   simp only [Option.bind_some]
   rw [hvf]
   simp only [Option.bind_some]
   rw [huf]
   simp only [Option.bind_some]
   rw [V_D] at hvv huv
   have e2 : (((((nD x).length : Nat) : Int) - (((nD y).length : Nat) : Int)) + 1).toNat = (nD x).length - (nD y).length + 1 := by omega
   rw [gd_pos (by omega), gd_pos (by omega), gd_pos (okI64 (by omega) (by omega)), gd_pos (okI64 (by omega) (by omega)), gd_pos (by omega), gd_pos (by trivial), gd_pos (by unfold rmB; omega), gd_pos (okI64 (by omega) (by omega)), e2]
   have hp : 0 < 2 ^ s := Nat.pow_pos (by decide)
   -- the divisor, moved up
   have hw := wpos hl0
   rw [V_D] at hw
   have hll := V_lt ((nD y).take ((nD y).length - 1))
   rw [List.length_take, Nat.min_eq_left (by omega)] at hll
   have hpw : 4294967296 ^ (nD y).length = 4294967296 * 4294967296 ^ ((nD y).length - 1) := by rw [← pow1]; congr 1; omega
   generalize ht : ((nD y).getD ((nD y).length - 1) 0).toNat = t at *
   have hP := bpow_pos ((nD y).length - 1)
   have hlo : 2147483648 * 4294967296 ^ ((nD y).length - 1) ≤ 2 ^ s * y := by
    have k1 := Nat.mul_le_mul_right (4294967296 ^ ((nD y).length - 1)) hs1
    have k2 : 2 ^ s * (4294967296 ^ ((nD y).length - 1) * t) ≤ 2 ^ s * y := Nat.mul_le_mul_left _ (by omega)
    have k3 : t * 2 ^ s * 4294967296 ^ ((nD y).length - 1) = 2 ^ s * (4294967296 ^ ((nD y).length - 1) * t) := by grind
    omega
   have hhi : 2 ^ s * y < 4294967296 ^ (nD y).length := by
    have k1 : y + 1 ≤ 4294967296 ^ ((nD y).length - 1) * (t + 1) := by rw [Nat.mul_add]; omega
    have k2 := Nat.mul_le_mul_left (2 ^ s) k1
    have k3 : (t + 1) * 2 ^ s ≤ 4294967296 := by
     have e5 : (4294967296 : Nat) = 2 ^ (32 - s) * 2 ^ s := by rw [← Nat.pow_add, show 32 - s + s = 32 by omega]
     rw [e5] at hs2 ⊢
     exact Nat.mul_le_mul_right _ (Nat.lt_of_mul_lt_mul_right hs2)
    have k4 := Nat.mul_le_mul_right (4294967296 ^ ((nD y).length - 1)) k3
    have k5 : 2 ^ s * (4294967296 ^ ((nD y).length - 1) * (t + 1)) = (t + 1) * 2 ^ s * 4294967296 ^ ((nD y).length - 1) := by grind
    rw [hpw]
    rw [Nat.mul_add] at k2
    omega
   have hvs := V_split vf (nD y).length
   have hvd : nV (vf.drop (nD y).length) = 0 := by
    cases Nat.eq_zero_or_pos (nV (vf.drop (nD y).length)) with
    | inl h => exact h
    | inr h => have := Nat.mul_le_mul_left (4294967296 ^ (nD y).length) h; omega
   rw [hvd, Nat.mul_zero, Nat.add_zero, hvv] at hvs
   have hvt := V_take vf ((nD y).length - 1) (by omega)
   rw [show (nD y).length - 1 + 1 = (nD y).length by omega, ← hvs] at hvt
   have hvtl := V_lt (vf.take ((nD y).length - 1))
   rw [List.length_take, Nat.min_eq_left (by omega)] at hvtl
   have hg : ((vf.take (nD y).length).getD ((nD y).length - 1) 0) = vf.getD ((nD y).length - 1) 0 := by
    rw [List.getD_eq_getElem?_getD, List.getD_eq_getElem?_getD, List.getElem?_take_of_lt (by omega)]
   have hn1 : 2147483648 ≤ (vf.getD ((nD y).length - 1) 0).toNat := by
    refine Nat.le_of_not_lt fun h => ?_
    have k1 := Nat.mul_le_mul_left (4294967296 ^ ((nD y).length - 1)) (show (vf.getD ((nD y).length - 1) 0).toNat + 1 ≤ 2147483648 from h)
    rw [Nat.mul_add] at k1
    omega
   -- the dividend's top
   have hxl := (D_len x (nD x).length).1 (Nat.le_refl _)
   have hus := V_split uf ((nD x).length - (nD y).length + 1)
   have hut : nV (uf.drop ((nD x).length - (nD y).length + 1)) < 2 ^ s * y := by
    refine Nat.lt_of_lt_of_le ?_ hlo
    refine Nat.lt_of_mul_lt_mul_left (a := 4294967296 ^ ((nD x).length - (nD y).length + 1)) ?_
    have k1 : 2 ^ s * x < 2 ^ s * 4294967296 ^ (nD x).length := Nat.mul_lt_mul_of_pos_left hxl hp
    have k2 : 2 ^ s ≤ 2 ^ 31 := Nat.pow_le_pow_right (by decide) (by omega)
    have k3 := Nat.mul_le_mul_right (4294967296 ^ (nD x).length) k2
    have k4 : 4294967296 ^ (nD x).length = 4294967296 ^ ((nD x).length - (nD y).length + 1) * 4294967296 ^ ((nD y).length - 1) := by rw [← Nat.pow_add]; congr 1; omega
    have k5 : 4294967296 ^ ((nD x).length - (nD y).length + 1) * (2147483648 * 4294967296 ^ ((nD y).length - 1)) = 2 ^ 31 * 4294967296 ^ (nD x).length := by rw [k4]; grind
    rw [k5]
    omega
   have := pdivide_l1_is hn (nD x) (nD y) vf ((nD y).length + 1) s uf x y hs (by omega) hxy (by omega) (by simp; omega) (by rw [List.drop_zero, hg]; exact hn1) (by rw [List.drop_zero, ← hvs]) ((nD x).length - (nD y).length + 1) n uf (List.replicate ((nD x).length - (nD y).length + 1) 0) (by omega) (Nat.le_refl _) hul (by simp) (fun k _ => getD_rep0 _ _) hut (by rw [huv, V_rep]; omega)
   rw [show (((nD x).length - (nD y).length + 1 : Nat) : Int) - 1 = ((nD x).length : Int) - ((nD y).length : Int) by omega] at this
   exact this
theorem D_mul_len {x y k l : Nat} (hx : (nD x).length ≤ k) (hy : (nD y).length ≤ l) : (nD (x * y)).length ≤ k + l := by
 rw [D_len, Nat.pow_add]
 have h1 := (D_len x k).1 hx
 have h2 := (D_len y l).1 hy
 exact Nat.mul_lt_mul'' h1 h2
theorem prest_D {n : Nat} (hn : 18446744073709551616 ≤ n) {x y m : Nat} (hx : (nD x).length ≤ 1000) (hy : (nD y).length ≤ 1000) (hm : (nD m).length ≤ 1000) (h0 : m ≠ 0) :
  prest n (nD x) (nD y) (nD m) = some (nD (x * y % m), (nD (x * y % m)).length) := by
 have := D_mul_len hx hy
 unfold prest
 rw [ptimes_D hn (by omega) (by omega)]
 simp only [Option.bind_some]
 rw [pdivide_D hn (by omega) (by omega) h0]; rfl
theorem D_one : nD 1 = [1] := by
 have := D_V (l := [1]) (by simp)
 rwa [show nV [1] = 1 from rfl] at this
theorem bit_mod (x a r : Nat) (h : r < 32) : x / 2 ^ a % 4294967296 / 2 ^ r % 2 = x / 2 ^ (a + r) % 2 := by
 have e : (4294967296 : Nat) = 2 ^ r * (2 * 2 ^ (31 - r)) := by rw [show 2 * 2 ^ (31 - r) = 2 ^ (32 - r) by rw [Nat.mul_comm, ← Nat.pow_succ]; congr 1; omega, ← Nat.pow_add, show r + (32 - r) = 32 by omega]
 rw [e, Nat.mod_mul_right_div_self, Nat.div_div_eq_div_mul, ← Nat.pow_add, Nat.mod_mul_right_mod]
theorem half (x j : Nat) : x / 2 ^ j = 2 * (x / 2 ^ (j + 1)) + x / 2 ^ j % 2 := by
 rw [Nat.pow_succ, ← Nat.div_div_eq_div_mul]; omega
theorem pow_step (x m k t : Nat) : ((x ^ k % m) * (x ^ k % m) % m * x) % m = x ^ (2 * k + 1) % m ∧ (x ^ k % m) * (x ^ k % m) % m = x ^ (2 * k) % m := by
 have h : (x ^ k % m) * (x ^ k % m) % m = x ^ (2 * k) % m := by rw [← Nat.mul_mod, ← Nat.pow_add, Nat.two_mul]
 refine ⟨?_, h⟩
 rw [h, Nat.mod_mul_mod, Nat.pow_succ]
theorem and1_32 (x : UInt32) : ((x &&& (1 : UInt32)) == 1) = decide (x.toNat % 2 = 1) := by
 have e : (x &&& (1 : UInt32)).toNat = x.toNat % 2 := by
  rw [UInt32.toNat_and]; exact Nat.and_one_is_mod _
 rw [Bool.eq_iff_iff]
 simp only [beq_iff_eq, decide_eq_true_eq, ← UInt32.toNat_inj, e]
 exact Iff.rfl
theorem pExp_l1_is {n : Nat} (hn : 18446744073709551616 ≤ n) (x e m : Nat) (b1 b2 : Bool) (w2 : List UInt32) (l2 : Nat) (hx : (nD x).length ≤ 64) (he : (nD e).length ≤ 64) (hm : (nD m).length ≤ 64) (h0 : m ≠ 0) :
  ∀ (j fu : Nat) (l : Nat), j < fu → j ≤ 32 * (nD e).length →
  pExp_l1 n (nD x, (nD x).length, nD e, (nD e).length, b1) (nD m, (nD m).length, w2, l2, b2) fu (nD (x ^ (e / 2 ^ j) % m)) l ((j : Int) - 1) = some (nD (x ^ e % m), none) := by
 intro j
 induction j with
 | zero =>
  intro fu l hf hj
  cases fu with
  | zero => omega
  | succ fu =>
   have := D_mono (Nat.le_of_lt (Nat.mod_lt (x ^ (e / 2 ^ 0)) (show m > 0 by omega)))
   rw [pExp_l1, ite_f (by simp), gd_pos (by omega)]; simp
 | succ j ih =>
  intro fu l hf hj
  cases fu with
  | zero => omega
  | succ fu =>
   have hml := fun y => D_mono (Nat.le_of_lt (Nat.mod_lt y (show m > 0 by omega)))
   have t1 : Int.tdiv (j : Int) 32 = ((j / 32 : Nat) : Int) := by rw [Int.tdiv_eq_ediv_of_nonneg (by omega)]; omega
   have t2 : Int.tmod (j : Int) 32 = ((j % 32 : Nat) : Int) := by rw [Int.tmod_eq_emod_of_nonneg (by omega)]; omega
   obtain ⟨p1, p2⟩ := pow_step x m (e / 2 ^ (j + 1)) 0
   rw [show ((j + 1 : Nat) : Int) - 1 = (j : Int) by omega, pExp_l1, ite_t (by simp), prest_D hn (by have := hml (x ^ (e / 2 ^ (j + 1))); omega) (by have := hml (x ^ (e / 2 ^ (j + 1))); omega) (by omega) h0]
   simp only [Option.bind_some]
   rw [t1, t2, gd_pos (by decide), gd_pos (okI64 (by omega) (by omega)), gd_pos (by omega), gd_pos (by omega), gd_pos (by decide), gd_pos (by omega), and1_32, shr32_is _ _ (by omega), Int.toNat_natCast, D_get]
   have hb : e / 4294967296 ^ (j / 32) % 4294967296 / 2 ^ (j % 32) % 2 = e / 2 ^ j % 2 := by
    rw [show (4294967296 : Nat) ^ (j / 32) = 2 ^ (32 * (j / 32)) by rw [Nat.pow_mul], bit_mod _ _ _ (by omega), show 32 * (j / 32) + j % 32 = j by omega]
   rw [hb, p2]
   have hh := half e j
   by_cases hbit : e / 2 ^ j % 2 = 1
   ·rw [ite_t (by simp [hbit]), prest_D hn (by have := hml (x ^ (2 * (e / 2 ^ (j + 1)))); omega) (by omega) (by omega) h0]
    simp only [Option.bind_some]
    unfold pExp_j1
    rw [gd_pos (okI64 (by omega) (by omega)), ← p2, p1, show 2 * (e / 2 ^ (j + 1)) + 1 = e / 2 ^ j by omega]
    exact ih fu _ (by omega) (by omega)
   ·rw [ite_f (by simp [hbit])]
    unfold pExp_j1
    rw [gd_pos (okI64 (by omega) (by omega)), show 2 * (e / 2 ^ (j + 1)) = e / 2 ^ j by omega]
    exact ih fu _ (by omega) (by omega)
theorem pExp_is {n : Nat} (hn : 18446744073709551616 ≤ n) {a e m : List UInt32} (ha : a.length ≤ 1000000) (he : e.length ≤ 1000000) (hm : m.length ≤ 1000000) :
  pExp n a e m = if (nD (nV a)).length ≤ 64 ∧ (nD (nV e)).length ≤ 64 ∧ (nD (nV m)).length ≤ 64 then (if nV m = 0 then some ([], some 1) else some (nD (nV a ^ nV e % nV m), none)) else some ([], some 4) := by
 unfold pExp
 rw [pmay_is hn ha he, pmay_is hn hm (by simp)]
 simp only [Option.bind_some]
 by_cases h : (nD (nV a)).length ≤ 64 ∧ (nD (nV e)).length ≤ 64
 ·rw [ite_f (by simp [h])]
  by_cases h2 : (nD (nV m)).length ≤ 64
  ·rw [if_pos ⟨h.1, h.2, h2⟩, ite_f (by simp [h2, V_nil, D_zero])]
   by_cases h0 : nV m = 0
   ·rw [if_pos h0, ite_t (by rw [h0, D_zero]; rfl)]
   ·rw [if_neg h0, ite_f (by have := (D_last h0).1; simp; intro h; rw [h] at this; exact this rfl)]
    have hd := pdivide_D hn (x := 1) (y := nV m) (by rw [D_one]; decide) (by omega) h0
    rw [D_one] at hd
    rw [hd]
    simp only [Option.bind_some]
    rw [gd_pos (okI64 (by omega) (by omega)), gd_pos (okI64 (by omega) (by omega))]
    have := pExp_l1_is hn (nV a) (nV e) (nV m) (decide ((nD (nV a)).length ≤ 64 ∧ (nD (nV e)).length ≤ 64)) (decide ((nD (nV m)).length ≤ 64 ∧ (nD (nV [])).length ≤ 64)) (nD (nV [])) (nD (nV [])).length h.1 h.2 h2 h0 (32 * (nD (nV e)).length) n (nD (1 % nV m)).length (by omega) (Nat.le_refl _)
    have hz : nV e / 2 ^ (32 * (nD (nV e)).length) = 0 := by
     rw [Nat.div_eq_of_lt]
     have := (D_len (nV e) (nD (nV e)).length).1 (Nat.le_refl _)
     rw [Nat.pow_mul]; exact this
    rw [hz, Nat.pow_zero, Int.natCast_mul] at this
    exact this
  ·rw [if_neg (fun h' => h2 h'.2.2), ite_t (by simp [h2])]
 ·rw [if_neg (fun h' => h ⟨h'.1, h'.2.1⟩), ite_t (by rw [decide_eq_false h]; rfl)]
end Go.Sx
end
section
namespace Go.Proofs.YthichmclbiggmaaDoor
open Go.RowKit Go.Ch Go.Sx
def tabL_dd : List (TypeId × Ti) := [(3, ⟨.int .i64, 1, 8, true, some [.int .i64]⟩),
 (5, ⟨.int .u8, 1, 1, true, some [.int .u8]⟩),
 (23, ⟨.sl 55, 1, 24, false, some [.nils]⟩),
 (26, ⟨.sl 5, 1, 24, false, some [.nils]⟩),
 (49, ⟨.sl 3, 1, 24, false, some [.nils]⟩),
 (55, ⟨.int .u32, 1, 4, true, some [.int .u32]⟩)]
def tab_dd : Tab := fun t => (tabL_dd).lookup t
theorem tabE_dd : (tabL_dd.map fun p => tiOf Tryd.prog p.1) = tabL_dd.map fun p => some p.2 := by kernel_rfl
theorem tabO_dd : TabOk Tryd.prog tab_dd := tab_of tabE_dd
def rtrim_l1 (n : Nat) (a0 : List Int) : Nat → Int → Option (List Int × Nat)
 | 0, _ => none
 | fu_l1 + 1, i3_2 =>
 bif (decide ((0 : Int) < i3_2)) then
 gd (okI .i64 (i3_2 - 1)) <|
 gd (0 ≤ (i3_2 - 1)) <|
 gd ((i3_2 - 1) < ((a0.length : Nat) : Int)) <|
 bif ((a0.getD ((i3_2 - 1).toNat) 0) == 0) then
 gd (okI .i64 (i3_2 - 1)) <|
 (rtrim_l1 n a0 fu_l1) (i3_2 - 1)
 else
 gd (0 ≤ i3_2) <|
 gd (i3_2 ≤ ((a0.length : Nat) : Int)) <|
 some (a0, i3_2.toNat)
 else
 gd (0 ≤ i3_2) <|
 gd (i3_2 ≤ ((a0.length : Nat) : Int)) <|
 some (a0, i3_2.toNat)
def rtrim (n : Nat) (a0 : List Int) : Option (List Int × Nat) :=
 rtrim_l1 n a0 n ((a0.length : Nat) : Int)
def rOf_l1 (n : Nat) (a0 : List UInt32) : Nat → List Int → Int → Option (List Int × Nat)
 | 0, _, _ => none
 | fu_l1 + 1, z3_2, i4_2 =>
  bif (decide (i4_2 < ((a0.length : Nat) : Int))) then
   gd (0 ≤ i4_2) <|
   gd (i4_2 < ((a0.length : Nat) : Int)) <|
   gd ((65536 : UInt32) ≠ 0) <|
   gd (0 ≤ i4_2) <|
   gd (i4_2 < ((a0.length : Nat) : Int)) <|
   gd ((65536 : UInt32) ≠ 0) <|
   gd (rmB (z3_2.length + 2) 8) <|
   gd (okI .i64 (i4_2 + 1)) <|
   (rOf_l1 n a0 fu_l1) (z3_2 ++ [((((a0.getD i4_2.toNat 0) % (65536 : UInt32)).toNat : Nat) : Int), ((((a0.getD i4_2.toNat 0) / (65536 : UInt32)).toNat : Nat) : Int)]) (i4_2 + 1)
  else
   (rtrim n z3_2).bind fun r27_2 =>
   some (((z3_2.drop 0).take r27_2.2), r27_2.2)
def rOf (n : Nat) (a0 : List UInt32) : Option (List Int × Nat) :=
 rOf_l1 n a0 n [] 0
def rCmp_l1 (n : Nat) (a0 : List Int) (a1 : List Int) : Nat → Int → Option (Int)
 | 0, _ => none
 | fu_l1 + 1, i5_2 =>
 bif (decide ((0 : Int) ≤ i5_2)) then
 gd (0 ≤ i5_2) <|
 gd (i5_2 < ((a0.length : Nat) : Int)) <|
 gd (0 ≤ i5_2) <|
 gd (i5_2 < ((a1.length : Nat) : Int)) <|
 bif ((a0.getD i5_2.toNat 0) != (a1.getD i5_2.toNat 0)) then
 gd (0 ≤ i5_2) <|
 gd (i5_2 < ((a0.length : Nat) : Int)) <|
 gd (0 ≤ i5_2) <|
 gd (i5_2 < ((a1.length : Nat) : Int)) <|
 bif (decide ((a0.getD i5_2.toNat 0) < (a1.getD i5_2.toNat 0))) then
 some (-1)
 else
 some 1
 else
 gd (okI .i64 (i5_2 - 1)) <|
 (rCmp_l1 n a0 a1 fu_l1) (i5_2 - 1)
 else
 some 0
def rCmp (n : Nat) (a0 : List Int) (a1 : List Int) : Option (Int) :=
 bif (((a0.length : Nat) : Int) != ((a1.length : Nat) : Int)) then
 bif (decide (((a0.length : Nat) : Int) < ((a1.length : Nat) : Int))) then
 some (-1)
 else
 some 1
 else
 gd (okI .i64 (((a0.length : Nat) : Int) - 1)) <|
 rCmp_l1 n a0 a1 n (((a0.length : Nat) : Int) - 1)
def rtrim_l1_E (a0 : List Int) (i3_2 : Int) : S := ⟨[(0, kH 0), (3, kI i3_2)], [(1000000, kH 0)], [oz 3 a0]⟩
abbrev rtrim_l1_P (n : Nat) (a0 : List Int) (r : List Int × Nat) (fu : Nat) : S → Prop := fun s => ∃ (i3_2 : Int), s = rtrim_l1_E a0 i3_2 ∧ rtrim_l1 n a0 fu i3_2 = some r
def rtrim_R (r : List Int × Nat) : S := ⟨[(2, .c (.sl 0 0 r.2))], [(1000000, kH 0)], [oz 3 r.1]⟩
def rtrim_ct (n : Nat) (r : List Int × Nat) : Ct := ctc aZ fun x0 l0 => ctl (fun H => subC 0 r.2 x0) fun ys => ct0 fun H => ([rtrim n l0 = some r], ys, [])
theorem rtrim_ok (n : Nat) (r : List Int × Nat) : FnOk Tryd.prog Tr 40 (rtrim_ct n r) := by
 refine ⟨fun args H g av objs hF hg ρ w vals hG hp ha => ?_, _, Tryd.func40, by kernel_rfl, by kernel_rfl⟩
 obtain ⟨x0, _, l0, rfl, e0, hF⟩ := ctc_inv hF
 obtain ⟨ys, e1, hF⟩ := ctl_inv hF
 obtain ⟨rfl, rfl, rfl, rfl⟩ := ct0_inv hF
 dsimp only
 obtain ⟨v0, vals, rfl, k0, ha⟩ := F2.inv ha
 obtain rfl := F2.inv0 ha
 have h : rtrim n l0 = some r := hg
 obtain ⟨p0, s0, o0⟩ := aZ_ok hp e0 (k0) 3
 have kk := k0
 have zz := aZ_sz hp e0
 have hR0 := rel0 (gv := (fun j => ([v0] : List Value).getD j undef)) (n := 21) (w := w) (args := [kH 0]) (H := [⟨.ro false, 3, 1, l0.length, .z l0⟩]) (gl := [(1000000, .c (.wh 0))]) (hpL (ps := [p0]) (F2.cons o0 F2.nil)) (allRo_ok rfl) (F2.cons s0 F2.nil) (GlR.cons 0 s0 GlR.nil) (by simp)
 clear ha hp hg hF k0 e0
 refine calls_W Tryd.func40 rfl rfl hR0 (Q := fun e s => (e = .ret ∨ e = .normal) ∧ s = rtrim_R r) ?_ ?_
 ·clear hR0
  unfold rtrim at h
  have hT := tabO_dd
  refine Vrs hT [0] ⟨[(0, kH 0)], [(1000000, kH 0)], [oz 3 l0]⟩ ?_
  refine Vrs hT [0] ⟨[(0, kH 0), (3, kI ((l0.length : Nat) : Int))], [(1000000, kH 0)], [oz 3 l0]⟩ ?_
  refine W_seq ?_
  refine W_block ?_
  refine Vc [] [0] (rtrim_l1_E l0 ((l0.length : Nat) : Int)) (W_lp ((rtrim_l1_P n l0 r)) n ⟨_, rfl, h⟩ ?_)
  rintro fu_l1 _ ⟨i3_2, rfl, h⟩
  cases fu_l1 with
  | zero => cases h
  | succ fu_l1 =>
   refine ⟨fu_l1, rfl, ?_⟩
   rw [rtrim_l1] at h
   refine W_seq ?_
   refine W_seq ?_
   rcases Bool.eq_false_or_eq_true (decide ((0 : Int) < i3_2)) with g1 | g1
   ·replace h := bif_t h g1
    obtain ⟨g2, g3, g4, h⟩ := gd3 h
    refine Vg hT fN [(2, true)] [] [0] ⟨[(0, kH 0), (3, kI i3_2), (15, kB ((l0.getD ((i3_2 - 1).toNat) 0) == 0))], [(1000000, kH 0)], [oz 3 l0]⟩ (aP g1 (aP g2 (aP g3 (aP g4 aN)))) ?_
    refine Vi (((l0.getD ((i3_2 - 1).toNat) 0) == 0)) (fun g8 => ?_) (fun g8 => ?_)
    ·replace h := bif_t h g8
     refine W_skip ?_
     refine W_block ?_
     obtain ⟨g5, h⟩ := gd_some h
     refine Vg hT fN [] [] [0] (rtrim_l1_E l0 (i3_2 - 1)) (aP g5 aN) ?_
     exact ⟨_, rfl, h⟩
    ·replace h := bif_f h g8
     refine Vc [] [0] ⟨[(0, kH 0), (3, kI i3_2)], [(1000000, kH 0)], [oz 3 l0]⟩ (W_exit ?_)
     obtain ⟨g6, g7, h⟩ := gd2 h
     refine Vgs hT fN [] [] [0] ⟨[(2, .c (.sl 0 0 i3_2.toNat))], [(1000000, kH 0)], [oz 3 l0]⟩ (aP g6 (aP g7 aN)) ?_
     refine Vc [] [0] (rtrim_R (l0, i3_2.toNat)) (W_ret ?_)
     exact ⟨.inl rfl, by cases h; rfl⟩
   ·replace h := bif_f h g1
    refine Vg hT fN [(2, false)] [] [0] ⟨[(0, kH 0), (3, kI i3_2), (15, kB false)], [(1000000, kH 0)], [oz 3 l0]⟩ (aP g1 aN) ?_
    refine Vi (false) (fun hb => by cases hb) (fun _ => ?_)
    refine Vc [] [0] ⟨[(0, kH 0), (3, kI i3_2)], [(1000000, kH 0)], [oz 3 l0]⟩ (W_exit ?_)
    obtain ⟨g9, g10, h⟩ := gd2 h
    refine Vgs hT fN [] [] [0] ⟨[(2, .c (.sl 0 0 i3_2.toNat))], [(1000000, kH 0)], [oz 3 l0]⟩ (aP g9 (aP g10 aN)) ?_
    refine Vc [] [0] (rtrim_R (l0, i3_2.toNat)) (W_ret ?_)
    exact ⟨.inl rfl, by cases h; rfl⟩
 ·rintro e s' ⟨he, rfl⟩
  refine ⟨he, fun a' w' hr => ?_⟩
  exact retB_ok (q := 0) hr rfl rfl rfl (by kernel_rfl) kk zz e1
def rOf_l1_E (a0 : List UInt32) (z3_2 : List Int) (i4_2 : Int) : S := ⟨[(0, kH 0), (3, kH 1), (4, kI i4_2)], [], [ow 55 a0, nz 3 z3_2]⟩
abbrev rOf_l1_P (n : Nat) (a0 : List UInt32) (r : List Int × Nat) (fu : Nat) : S → Prop := fun s => ∃ (z3_2 : List Int), ∃ (i4_2 : Int), s = rOf_l1_E a0 z3_2 i4_2 ∧ rOf_l1 n a0 fu z3_2 i4_2 = some r
def rOf_R (r : List Int × Nat) : S := ⟨[(2, kH 0)], [], [⟨(.ro true), 3, 1, r.2, .z r.1⟩]⟩
def rOf_ct (n : Nat) (r : List Int × Nat) : Ct := ctc (rW 55).rd fun _ l0 => ct0 fun H => ([rOf n l0 = some r], shA H.length (kH 0), shH H.length [⟨(.ro true), 3, 1, r.2, .z r.1⟩])
theorem rOf_ok (n : Nat) (r : List Int × Nat) : FnOk Tryd.prog Tr 21 (rOf_ct n r) := by
 refine fnok Tryd.func21 ?_
 refine HO_c (rW 55) fun l0 _ => HO_0 tabO_dd (rOf_R r) [.tmp 2] [0] 28 Tryd.func21 fun w hG h => ?_
 unfold rOf at h
 have hT := tabO_dd
 refine Vrs hT [0] ⟨[(0, kH 0)], [], [ow 55 l0]⟩ ?_
 refine Vrs hT [0] ⟨[(0, kH 0), (3, .c (.nils))], [], [ow 55 l0]⟩ ?_
 refine W_seq ?_
 refine Vrs hT [0] ⟨[(0, kH 0), (3, .c (.nils)), (4, kI 0)], [], [ow 55 l0]⟩ ?_
 refine W_block ?_
 refine Vc [.nil 3 3 1 (.z [])] [0, 1] (rOf_l1_E l0 [] 0) (W_lp ((rOf_l1_P n l0 r)) n ⟨_, _, rfl, h⟩ ?_)
 rintro fu_l1 _ ⟨z3_2, i4_2, rfl, h⟩
 cases fu_l1 with
 | zero => cases h
 | succ fu_l1 =>
  refine ⟨fu_l1, rfl, ?_⟩
  rw [rOf_l1] at h
  refine W_seq ?_
  refine Vrs hT [0, 1] ⟨[(0, kH 0), (3, kH 1), (4, kI i4_2), (8, kB (decide (i4_2 < ((l0.length : Nat) : Int))))], [], [ow 55 l0, nz 3 z3_2]⟩ ?_
  refine Vi ((decide (i4_2 < ((l0.length : Nat) : Int)))) (fun g10 => ?_) (fun g10 => ?_)
  ·replace h := bif_t h g10
   refine W_skip ?_
   refine W_seq ?_
   refine W_block ?_
   obtain ⟨g1, g2, g3, g4, g5, h⟩ := gd5 h
   obtain ⟨g6, g7, h⟩ := gd2 h
   refine Vd hT fN 14 [] [(0, false), (3, false), (4, false), (11, false), (24, false)] [] [0, 3] ⟨[(0, kH 0), (3, kH 1), (4, kI i4_2)], [], [ow 55 l0, nz 3 (z3_2 ++ [((((l0.getD i4_2.toNat 0) % (65536 : UInt32)).toNat : Nat) : Int), ((((l0.getD i4_2.toNat 0) / (65536 : UInt32)).toNat : Nat) : Int)])]⟩ (aP g1 (aP g2 (aP g3 (aP g4 (aP g5 (aP g6 (aP g7 aN))))))) ?_
   obtain ⟨g8, h⟩ := gd_some h
   refine Vg hT fN [] [] [0, 1] (rOf_l1_E l0 (z3_2 ++ [((((l0.getD i4_2.toNat 0) % (65536 : UInt32)).toNat : Nat) : Int), ((((l0.getD i4_2.toNat 0) / (65536 : UInt32)).toNat : Nat) : Int)]) (i4_2 + 1)) (aP g8 aN) ?_
   exact ⟨_, _, rfl, h⟩
  ·replace h := bif_f h g10
   refine Vc [] [1] ⟨[(3, kH 0)], [], [nz 3 z3_2]⟩ (W_exit ?_)
   obtain ⟨r27_2, g9, h⟩ := bind_some' h
   refine Vgs hT (fT 1 (rtrim_ok n r27_2) fN) [] [] [0] ⟨[(2, .c (.sl 0 0 r27_2.2))], [], [nz 3 z3_2]⟩ (aP g9 aN) ?_
   refine Vc [.vw 2 true] [1] (rOf_R (((z3_2.drop 0).take r27_2.2), r27_2.2)) (W_ret ?_)
   exact ⟨.inl rfl, by cases h; rfl⟩
def rCmp_l1_E (a0 : List Int) (a1 : List Int) (i5_2 : Int) : S := ⟨[(0, kH 0), (1, kH 1), (5, kI i5_2)], [], [oz 3 a0, oz 3 a1]⟩
abbrev rCmp_l1_P (n : Nat) (a0 : List Int) (a1 : List Int) (r : Int) (fu : Nat) : S → Prop := fun s => ∃ (i5_2 : Int), s = rCmp_l1_E a0 a1 i5_2 ∧ rCmp_l1 n a0 a1 fu i5_2 = some r
def rCmp_R (r : Int) : S := ⟨[(4, kI r)], [], []⟩
def rCmp_ct (n : Nat) (r : Int) : Ct := ctc (rZ 3).rd fun _ l0 => ctc (rZ 3).rd fun _ l1 => ct0 fun H => ([rCmp n l0 l1 = some r], shA H.length (kI r), shH H.length [])
theorem rCmp_ok (n : Nat) (r : Int) : FnOk Tryd.prog Tr 20 (rCmp_ct n r) := by
 refine fnok Tryd.func20 ?_
 refine HO_c (rZ 3) fun l0 _ => HO_c (rZ 3) fun l1 _ => HO_0 tabO_dd (rCmp_R r) [.tmp 4] [] 41 Tryd.func20 fun w hG h => ?_
 unfold rCmp at h
 have hT := tabO_dd
 refine Vrs hT [0, 1] ⟨[(0, kH 0), (1, kH 1)], [], [oz 3 l0, oz 3 l1]⟩ ?_
 refine W_seq ?_
 refine Vrs hT [0, 1] ⟨[(0, kH 0), (1, kH 1), (10, kB (((l0.length : Nat) : Int) != ((l1.length : Nat) : Int)))], [], [oz 3 l0, oz 3 l1]⟩ ?_
 refine Vi ((((l0.length : Nat) : Int) != ((l1.length : Nat) : Int))) (fun g15 => ?_) (fun g15 => ?_)
 ·replace h := bif_t h g15
  refine W_seq ?_
  refine Vrs hT [] ⟨[(15, kB (decide (((l0.length : Nat) : Int) < ((l1.length : Nat) : Int))))], [], []⟩ ?_
  refine Vi ((decide (((l0.length : Nat) : Int) < ((l1.length : Nat) : Int)))) (fun g1 => ?_) (fun g1 => ?_)
  ·replace h := bif_t h g1
   refine Vrs hT [] ⟨[(4, kI (-1))], [], []⟩ ?_
   refine Vc [] [] (rCmp_R (-1)) (W_ret ?_)
   exact ⟨.inl rfl, by cases h; rfl⟩
  ·replace h := bif_f h g1
   refine W_skip ?_
   refine Vrs hT [] ⟨[(4, kI 1)], [], []⟩ ?_
   refine Vc [] [] (rCmp_R 1) (W_ret ?_)
   exact ⟨.inl rfl, by cases h; rfl⟩
 ·replace h := bif_f h g15
  refine W_skip ?_
  refine W_seq ?_
  obtain ⟨g2, h⟩ := gd_some h
  refine Vgs hT fN [] [] [0, 1] ⟨[(0, kH 0), (1, kH 1), (5, kI (((l0.length : Nat) : Int) - 1))], [], [oz 3 l0, oz 3 l1]⟩ (aP g2 aN) ?_
  refine W_block ?_
  refine Vc [] [0, 1] (rCmp_l1_E l0 l1 (((l0.length : Nat) : Int) - 1)) (W_lp ((rCmp_l1_P n l0 l1 r)) n ⟨_, rfl, h⟩ ?_)
  rintro fu_l1 _ ⟨i5_2, rfl, h⟩
  cases fu_l1 with
  | zero => cases h
  | succ fu_l1 =>
   refine ⟨fu_l1, rfl, ?_⟩
   rw [rCmp_l1] at h
   refine W_seq ?_
   refine Vrs hT [0, 1] ⟨[(0, kH 0), (1, kH 1), (5, kI i5_2), (20, kB (decide ((0 : Int) ≤ i5_2)))], [], [oz 3 l0, oz 3 l1]⟩ ?_
   refine Vi ((decide ((0 : Int) ≤ i5_2))) (fun g14 => ?_) (fun g14 => ?_)
   ·replace h := bif_t h g14
    refine W_skip ?_
    refine W_seq ?_
    refine W_block ?_
    obtain ⟨g3, g4, g5, g6, h⟩ := gd4 h
    refine Vds hT fN 8 [] [(0, false), (1, false), (5, false), (26, false), (30, false)] [] [0, 1] ⟨[(0, kH 0), (1, kH 1), (5, kI i5_2), (31, kB ((l0.getD i5_2.toNat 0) != (l1.getD i5_2.toNat 0)))], [], [oz 3 l0, oz 3 l1]⟩ (aP g3 (aP g4 (aP g5 (aP g6 aN)))) ?_
    refine Vi (((l0.getD i5_2.toNat 0) != (l1.getD i5_2.toNat 0))) (fun g13 => ?_) (fun g13 => ?_)
    ·replace h := bif_t h g13
     refine W_seq ?_
     obtain ⟨g7, g8, g9, g10, h⟩ := gd4 h
     refine Vds hT fN 8 [] [(35, false), (39, false)] [] [] ⟨[(40, kB (decide ((l0.getD i5_2.toNat 0) < (l1.getD i5_2.toNat 0))))], [], []⟩ (aP g7 (aP g8 (aP g9 (aP g10 aN)))) ?_
     refine Vi ((decide ((l0.getD i5_2.toNat 0) < (l1.getD i5_2.toNat 0)))) (fun g11 => ?_) (fun g11 => ?_)
     ·replace h := bif_t h g11
      refine Vrs hT [] ⟨[(4, kI (-1))], [], []⟩ ?_
      refine Vc [] [] (rCmp_R (-1)) (W_ret ?_)
      exact ⟨.inl rfl, by cases h; rfl⟩
     ·replace h := bif_f h g11
      refine W_skip ?_
      refine Vrs hT [] ⟨[(4, kI 1)], [], []⟩ ?_
      refine Vc [] [] (rCmp_R 1) (W_ret ?_)
      exact ⟨.inl rfl, by cases h; rfl⟩
    ·replace h := bif_f h g13
     refine W_skip ?_
     obtain ⟨g12, h⟩ := gd_some h
     refine Vg hT fN [] [] [0, 1] (rCmp_l1_E l0 l1 (i5_2 - 1)) (aP g12 aN) ?_
     exact ⟨_, rfl, h⟩
   ·replace h := bif_f h g14
    refine Vc [] [] ⟨[], [], []⟩ (W_exit ?_)
    refine Vrs hT [] ⟨[(4, kI 0)], [], []⟩ ?_
    refine Vc [] [] (rCmp_R 0) (W_ret ?_)
    exact ⟨.inl rfl, by cases h; rfl⟩
end Go.Proofs.YthichmclbiggmaaDoor
end
section
namespace Go.Sx
open Go Go.RowKit Go.Ch Go.Proofs.YthichmclbiggmaaDoor
theorem lastZ {l : List Int} (h : l ≠ []) : l.getLast h = l.getD (l.length - 1) 0 := by
 have : l.length - 1 < l.length := by have := List.length_pos_iff.2 h; omega
 rw [List.getLast_eq_getElem, List.getD_eq_getElem?_getD, List.getElem?_eq_getElem this]; rfl
theorem Dz.get {l : List Int} (h : Dz l) (i : Nat) : 0 ≤ l.getD i 0 ∧ l.getD i 0 < 65536 := by
 by_cases hi : i < l.length
 ·rw [List.getD_eq_getElem?_getD, List.getElem?_eq_getElem hi]; exact h _ (List.getElem_mem hi)
 ·rw [List.getD_eq_getElem?_getD, List.getElem?_eq_none (by omega)]; decide
theorem Dz.take {l : List Int} (h : Dz l) (i : Nat) : Dz (l.take i) := fun x hx => h x (List.mem_of_mem_take hx)
theorem Dz.app {l m : List Int} (h : Dz l) (h2 : Dz m) : Dz (l ++ m) := fun x hx => (List.mem_append.1 hx).elim (h x) (h2 x)
theorem Dz.one {x : Int} (h : 0 ≤ x ∧ x < 65536) : Dz [x] := fun y hy => by rw [List.mem_singleton.1 hy]; exact h
theorem Dz.nil : Dz [] := fun x hx => by cases hx
theorem Dz.rep (n : Nat) : Dz (List.replicate n 0) := fun x hx => by rw [(List.mem_replicate.1 hx).2]; decide
theorem Dz.set {l : List Int} (h : Dz l) {x : Int} (hx : 0 ≤ x ∧ x < 65536) (i : Nat) : Dz (l.set i x) := fun y hy => (List.mem_or_eq_of_mem_set hy).elim (h y) fun e => by rw [e]; exact hx
theorem rtrim_l1_is (n : Nat) (a : List Int) (hd : Dz a) (ha : a.length ≤ 1000000) : ∀ (k fu : Nat), k < fu → k ≤ a.length → nZ (a.take k) = nZ a →
  ∃ m, rtrim_l1 n a fu (k : Int) = some (a, m) ∧ a.take m = nE (nZ a) ∧ m = (nE (nZ a)).length := by
 intro k
 have fin : ∀ k, k ≤ a.length → a.take k = nE (nZ a) → k = (nE (nZ a)).length := fun k h1 h2 => by rw [← h2, List.length_take]; omega
 induction k with
 | zero =>
  intro fu hf hk he
  cases fu with
  | zero => omega
  | succ fu =>
   have h0 : nZ a = 0 := by rw [← he]; rfl
   have h1 : a.take 0 = nE (nZ a) := by rw [h0, E_zero]; rfl
   exact ⟨0, by rw [rtrim_l1, ite_f (by simp), gd_pos (by omega), gd_pos (by omega)]; rfl, h1, fin 0 hk h1⟩
 | succ k ih =>
  intro fu hf hk he
  cases fu with
  | zero => omega
  | succ fu =>
   have e : (((k + 1 : Nat) : Int) - 1) = (k : Int) := by omega
   rw [rtrim_l1, ite_t (by simp <;> omega), e, gd_pos (okI64 (by omega) (by omega)), gd_pos (by omega), gd_pos (by omega), Int.toNat_natCast]
   have h1 := Z_take a k (by omega)
   by_cases hz : a.getD k 0 = 0
   ·rw [ite_t (by rw [hz]; rfl), gd_pos (okI64 (by omega) (by omega))]
    rw [hz] at h1
    exact ih fu (by omega) (by omega) (by rw [← he, h1]; rfl)
   ·rw [ite_f (by simp only [beq_eq_false_iff_ne]; exact hz), gd_pos (by omega), gd_pos (by omega)]
    have hl : (a.take (k + 1)).length = k + 1 := by rw [List.length_take]; omega
    have h2 : a.take (k + 1) = nE (nZ a) := by
     rw [← he]
     refine (E_Z (hd.take _) fun hn => ?_).symm
     rw [lastZ hn, hl, Nat.add_sub_cancel, List.getD_eq_getElem?_getD, List.getElem?_take_of_lt (by omega), ← List.getD_eq_getElem?_getD]
     exact hz
    exact ⟨k + 1, by rw [show (((k + 1 : Nat) : Int)).toNat = k + 1 by omega], h2, fin _ hk h2⟩
theorem rtrim_is {n : Nat} (hn : 18446744073709551616 ≤ n) {a : List Int} (hd : Dz a) (ha : a.length ≤ 1000000) : rtrim n a = some (a, (nE (nZ a)).length) ∧ (a.drop 0).take (nE (nZ a)).length = nE (nZ a) := by
 obtain ⟨m, h1, h2, h3⟩ := rtrim_l1_is n a hd ha a.length n (by omega) (Nat.le_refl _) (by rw [List.take_length])
 subst h3
 exact ⟨h1, h2⟩
theorem rOf_l1_is {n : Nat} (hn : 18446744073709551616 ≤ n) (a : List UInt32) (ha : a.length ≤ 100000) : ∀ (m i fu : Nat) (z : List Int), i + m = a.length → m < fu → z.length = 2 * i → Dz z → nZ z = nV (a.take i) →
  rOf_l1 n a fu z (i : Int) = some (nE (nV a), (nE (nV a)).length) := by
 intro m
 induction m with
 | zero =>
  intro i fu z hi hf hz hd he
  cases fu with
  | zero => omega
  | succ fu =>
   rw [List.take_of_length_le (by omega)] at he
   obtain ⟨h1, h2⟩ := rtrim_is hn hd (by omega)
   rw [rOf_l1, ite_f (by simp <;> omega), h1]
   simp only [Option.bind_some]
   rw [h2, he]
 | succ m ih =>
  intro i fu z hi hf hz hd he
  cases fu with
  | zero => omega
  | succ fu =>
   rw [rOf_l1, ite_t (by simp <;> omega), gd_pos (by omega), gd_pos (by omega), gd_pos (by decide), gd_pos (by omega), gd_pos (by omega), gd_pos (by decide), gd_pos (by unfold rmB; omega), gd_pos (okI64 (by omega) (by omega)), Int.toNat_natCast]
   have hX := u32_lt (a.getD i 0)
   have e1 : (a.getD i 0 % 65536).toNat = (a.getD i 0).toNat % 65536 := UInt32.toNat_mod _ _
   have e2 : (a.getD i 0 / 65536).toNat = (a.getD i 0).toNat / 65536 := UInt32.toNat_div _ _
   rw [e1, e2]
   refine ih (i + 1) fu _ (by omega) (by omega) (by simp <;> omega) (hd.app (by
    intro x hx
    rcases List.mem_cons.1 hx with rfl | hx
    ·omega
    ·rw [List.mem_singleton.1 hx]; omega)) ?_
   rw [Z_app, he, V_take', hz, Z_cons, Z_cons, Z_nil, Int.toNat_natCast, Int.toNat_natCast, Nat.pow_mul]
   have hdm := Nat.mod_add_div (a.getD i 0).toNat 65536
   show _ + 4294967296 ^ i * _ = _
   generalize (a.getD i 0).toNat % 65536 = x at *
   generalize (a.getD i 0).toNat / 65536 = y at *
   rw [← hdm]; rfl
theorem rOf_is {n : Nat} (hn : 18446744073709551616 ≤ n) {a : List UInt32} (ha : a.length ≤ 100000) : rOf n a = some (nE (nV a), (nE (nV a)).length) :=
 rOf_l1_is hn a ha a.length 0 n [] (by omega) (by omega) rfl Dz.nil rfl
theorem rCmp_l1_is (n : Nat) (u v : List Int) (hu : Dz u) (hv : Dz v) (lu : Nat) (h1 : u.length = lu) (h2 : v.length = lu) (hlu : lu ≤ 1000000) : ∀ (j fu : Nat), j < fu → j ≤ lu → nZ (u.drop j) = nZ (v.drop j) →
  rCmp_l1 n u v fu ((j : Int) - 1) = some (cmpN (nZ u) (nZ v)) := by
 intro j
 induction j with
 | zero =>
  intro fu hf _ he
  cases fu with
  | zero => omega
  | succ fu => rw [rCmp_l1, ite_f (by simp), cmpN_eq (by simpa using he)]
 | succ j ih =>
  intro fu hf hj he
  cases fu with
  | zero => omega
  | succ fu =>
   have e : (((j + 1 : Nat) : Int) - 1) = (j : Int) := by omega
   have e1 := Z_drop u j (by omega)
   have e2 := Z_drop v j (by omega)
   have s1 := Z_split u j
   have s2 := Z_split v j
   have l1 := Z_lt (hu.take j)
   have l2 := Z_lt (hv.take j)
   have m1 : (u.take j).length = j := by simp; omega
   have m2 : (v.take j).length = j := by simp; omega
   have g1 := hu.get j
   have g2 := hv.get j
   rw [m1] at l1; rw [m2] at l2
   rw [e, rCmp_l1, ite_t (by simp), gd_pos (by omega), gd_pos (by omega), gd_pos (by omega), gd_pos (by omega)]
   simp only [Int.toNat_natCast]
   by_cases hne : u.getD j 0 = v.getD j 0
   ·rw [ite_f (by rw [hne]; simp), gd_pos (okI64 (by omega) (by omega))]
    exact ih fu (by omega) (by omega) (by rw [e1, e2, hne, he])
   ·rw [ite_t (by simp only [bne_iff_ne]; exact hne), gd_pos (by omega), gd_pos (by omega), gd_pos (by omega), gd_pos (by omega)]
    by_cases hlt : u.getD j 0 < v.getD j 0
    ·rw [ite_t (by simp only [decide_eq_true_eq]; exact hlt), cmpN_lt]
     rw [s1, s2]
     exact mul_pow_lt l1 (by omega)
    ·rw [ite_f (by simp only [decide_eq_false_iff_not]; exact hlt), cmpN_gt]
     rw [s1, s2]
     exact mul_pow_lt l2 (by omega)
theorem E_mono {x y : Nat} (h : x ≤ y) : (nE x).length ≤ (nE y).length := (E_len _ _).2 (Nat.lt_of_le_of_lt h ((E_len _ _).1 (Nat.le_refl _)))
theorem rCmp_is {n : Nat} (hn : 18446744073709551616 ≤ n) {x y : Nat} (ha : (nE x).length ≤ 1000000) (hb : (nE y).length ≤ 1000000) : rCmp n (nE x) (nE y) = some (cmpN x y) := by
 unfold rCmp
 by_cases h : (nE x).length < (nE y).length
 ·rw [ite_t (by simp <;> omega), ite_t (by simp <;> omega), cmpN_lt]
  refine Nat.lt_of_not_le fun h' => ?_
  have := E_mono h'; omega
 ·by_cases h' : (nE y).length < (nE x).length
  ·rw [ite_t (by simp <;> omega), ite_f (by simp <;> omega), cmpN_gt]
   refine Nat.lt_of_not_le fun h' => ?_
   have := E_mono h'; omega
  ·rw [ite_f (by simp <;> omega), gd_pos (okI64 (by omega) (by omega))]
   have hl : (nE y).length = (nE x).length := by omega
   have := rCmp_l1_is n (nE x) (nE y) (E_dz x) (E_dz y) (nE x).length rfl hl (by omega) (nE x).length n (by omega) (by omega) (by
    rw [List.drop_of_length_le (by omega), List.drop_of_length_le (by omega)])
   rw [Z_E, Z_E] at this
   exact this
def Nzz (l : List Int) (i : Nat) : Prop := ∀ k, i ≤ k → l.getD k 0 = 0
theorem Nzz.set {l : List Int} {i : Nat} (h : Nzz l i) (x : Int) : Nzz (l.set i x) (i + 1) := by
 intro k hk
 rw [getD_set_ne _ _ (by omega)]; exact h k (by omega)
end Go.Sx
end
section
namespace Go.Sx
open Go Go.RowKit Go.Ch Go.Proofs.YthichmclbiggmaaDoor
def nB (l : List UInt8) : Nat := vl 256 UInt8.toNat l.reverse
def dB (v : Nat) : List UInt8 := (dg 256 UInt8.ofNat v).reverse
theorem b_lt (x : UInt8) : x.toNat < 256 := x.toNat_lt
theorem b_of (x : Nat) (h : x < 256) : (UInt8.ofNat x).toNat = x := by simp; omega
theorem nB_dB (v : Nat) : nB (dB v) = v := by unfold nB dB; rw [List.reverse_reverse]; exact vl_dg _ _ _ (by decide) b_of v
theorem dB_len (v k : Nat) : (dB v).length ≤ k ↔ v < 256 ^ k := by unfold dB; rw [List.length_reverse]; exact dg_len _ _ (by decide) v k
theorem nB_lt (l : List UInt8) : nB l < 256 ^ l.length := by
 have := vl_lt 256 UInt8.toNat l.reverse fun x _ => b_lt x
 rwa [List.length_reverse] at this
theorem nB_nil : nB [] = 0 := rfl
theorem nB_cons (x : UInt8) (l : List UInt8) : nB (x :: l) = nB l + 256 ^ l.length * x.toNat := by
 unfold nB
 rw [List.reverse_cons, vl_app, List.length_reverse, vl_cons, vl_nil]; simp
theorem nB_inj : ∀ {a b : List UInt8}, a.length = b.length → nB a = nB b → a = b
 | [], [], _, _ => rfl
 | x :: a, y :: b, hl, h => by
  have hl' : a.length = b.length := by simpa using hl
  rw [nB_cons, nB_cons, hl'] at h
  have h1 := nB_lt a
  have h2 := nB_lt b
  rw [hl'] at h1
  have hp : 0 < 256 ^ b.length := Nat.pow_pos (by decide)
  have e1 : (nB a + 256 ^ b.length * x.toNat) % 256 ^ b.length = nB a := by rw [Nat.add_mul_mod_self_left, Nat.mod_eq_of_lt h1]
  have e2 : (nB b + 256 ^ b.length * y.toNat) % 256 ^ b.length = nB b := by rw [Nat.add_mul_mod_self_left, Nat.mod_eq_of_lt h2]
  have e3 : nB a = nB b := by rw [← e1, h, e2]
  have e4 : x.toNat = y.toNat := by
   rw [e3] at h
   exact Nat.eq_of_mul_eq_mul_left hp (by omega)
  rw [nB_inj hl' e3, UInt8.toNat_inj.1 e4]
 | [], _ :: _, hl, _ => by simp at hl
 | _ :: _, [], hl, _ => by simp at hl
theorem nB_set : ∀ (l : List UInt8) (i : Nat) (x : UInt8), i < l.length → nB (l.set (l.length - 1 - i) x) + 256 ^ i * (l.getD (l.length - 1 - i) 0).toNat = nB l + 256 ^ i * x.toNat
 | [], _, _, h => by simp at h
 | y :: t, i, x, h => by
  by_cases hi : i = t.length
  ·subst hi
   have e : (y :: t).length - 1 - t.length = 0 := by simp
   rw [e, List.set_cons_zero, nB_cons, nB_cons]; simp; omega
  ·have hi' : i < t.length := by simp at h; omega
   have e : (y :: t).length - 1 - i = (t.length - 1 - i) + 1 := by simp; omega
   have ih := nB_set t i x hi'
   rw [e, List.set_cons_succ, nB_cons, nB_cons, List.getD_cons_succ, List.length_set]; omega
theorem nB_rep (n : Nat) : nB (List.replicate n 0) = 0 := by
 unfold nB; rw [List.reverse_replicate]; exact vl_rep (z := (0 : UInt8)) 256 UInt8.toNat rfl n
theorem mod_step (v i : Nat) : v % 256 ^ (i + 1) = v % 256 ^ i + 256 ^ i * (v / 256 ^ i % 256) := Nat.mod_pow_succ
structure Wr (l : List UInt8) (n i v : Nat) : Prop where
 len : l.length = n
 z : ∀ k, k + i < n → l.getD k 0 = 0
 val : nB l = v % 256 ^ i
theorem Wr.start (n v : Nat) : Wr (List.replicate n 0) n 0 v := ⟨by simp, fun k _ => by rw [List.getD_eq_getElem?_getD, List.getElem?_replicate]; split <;> rfl, by rw [nB_rep]; simp [Nat.mod_one]⟩
theorem Wr.step {l : List UInt8} {n i v : Nat} (h : Wr l n i v) (hi : i < n) {x : UInt8} (hx : x.toNat = v / 256 ^ i % 256) : Wr (l.set (n - 1 - i) x) n (i + 1) v := by
 have hl := h.len
 have hs := nB_set l i x (by omega)
 rw [hl, h.z (n - 1 - i) (by omega), h.val] at hs
 refine ⟨by rw [List.length_set]; exact hl, fun k hk => by rw [getD_set_ne _ _ (by omega)]; exact h.z k (by omega), ?_⟩
 rw [mod_step, ← hx]
 simpa using hs
theorem limb_byte (v i : Nat) : v / 4294967296 ^ (i / 4) % 4294967296 / 2 ^ (8 * (i % 4)) % 256 = v / 256 ^ i % 256 := by
 have e1 : (4294967296 : Nat) ^ (i / 4) = 256 ^ (4 * (i / 4)) := by rw [Nat.pow_mul]
 have e2 : (2 : Nat) ^ (8 * (i % 4)) = 256 ^ (i % 4) := by rw [Nat.pow_mul]
 have e3 : (4294967296 : Nat) = 256 ^ (i % 4) * (256 * 256 ^ (3 - i % 4)) := by
  rw [show 256 * 256 ^ (3 - i % 4) = 256 ^ (4 - i % 4) by rw [Nat.mul_comm, ← Nat.pow_succ]; congr 1; omega, ← Nat.pow_add, show i % 4 + (4 - i % 4) = 4 by omega]
 rw [e1, e2]
 conv => lhs; rw [e3]
 rw [Nat.mod_mul_right_div_self, Nat.div_div_eq_div_mul, ← Nat.pow_add, Nat.mod_mul_right_mod, show 4 * (i / 4) + i % 4 = i by omega]
theorem dB_of {r : List UInt8} (h : r = [] ∨ (r.getD 0 0).toNat ≠ 0) : dB (nB r) = r := by
 refine nB_inj ?_ (nB_dB _)
 have h1 := nB_lt r
 have h2 := (dB_len (nB r) r.length).2 h1
 refine Nat.le_antisymm h2 ?_
 cases r with
 | nil => simp
 | cons x t =>
  simp only [List.getD_cons_zero] at h
  have hx : x.toNat ≠ 0 := h.resolve_left (by simp)
  refine Nat.le_of_not_lt fun hlt => ?_
  have h3 := (dB_len (nB (x :: t)) t.length).1 (by simp at hlt; omega)
  rw [nB_cons] at h3
  have := Nat.le_mul_of_pos_right (256 ^ t.length) (show 0 < x.toNat by omega)
  omega
theorem nB_snoc (l : List UInt8) (x : UInt8) : nB (l ++ [x]) = nB l * 256 + x.toNat := by
 unfold nB; rw [List.reverse_append, List.reverse_singleton, List.singleton_append, vl_cons]; omega
theorem V_inj : ∀ {a b : List UInt32}, a.length = b.length → nV a = nV b → a = b
 | [], [], _, _ => rfl
 | x :: a, y :: b, hl, h => by
  have h1 := u32_lt x
  have h2 := u32_lt y
  rw [V_cons, V_cons] at h
  rw [V_inj (a := a) (b := b) (by simpa using hl) (by omega), UInt32.toNat_inj.1 (show x.toNat = y.toNat by omega)]
 | [], _ :: _, hl, _ => by simp at hl
 | _ :: _, [], hl, _ => by simp at hl
theorem limb_get (w : List UInt32) (k : Nat) (h : k < w.length) : nV w / 4294967296 ^ k % 4294967296 = (w.getD k 0).toNat := by
 have h1 := V_split w k
 have h2 := V_drop w k h
 have h3 := V_lt (w.take k)
 rw [List.length_take, Nat.min_eq_left (by omega)] at h3
 have h4 := u32_lt (w.getD k 0)
 have hp : 0 < 4294967296 ^ k := Nat.pow_pos (by decide)
 rw [h1, Nat.add_mul_div_left _ _ hp, Nat.div_eq_of_lt h3, h2]; omega
theorem or_byte (o : UInt32) (x : UInt8) (s : Nat) (hs : s < 4) (ho : o.toNat % 256 ^ (s + 1) = 0) : (o ||| shl32 x.toUInt32 ((8 * s : Nat) : Int)).toNat = o.toNat + 256 ^ s * x.toNat := by
 have hx := b_lt x
 have e0 : (2 : Nat) ^ (8 * s) = 256 ^ s := by rw [Nat.pow_mul]
 have hle : 256 ^ s ≤ 16777216 := Nat.le_trans (Nat.pow_le_pow_right (by decide) (show s ≤ 3 by omega)) (by decide)
 have hxs : x.toNat * 256 ^ s < 256 ^ (s + 1) := by
  rw [Nat.pow_succ, Nat.mul_comm]
  exact Nat.mul_lt_mul_of_pos_left hx (Nat.pow_pos (by decide))
 have hsm : x.toNat * 256 ^ s ≤ 255 * 16777216 := Nat.mul_le_mul (by omega) hle
 have e1 : (shl32 x.toUInt32 ((8 * s : Nat) : Int)).toNat = x.toNat * 256 ^ s := by
  unfold shl32
  rw [if_pos (by omega), Int.toNat_natCast, UInt32.toNat_shiftLeft, UInt8.toNat_toUInt32]
  have : (UInt32.ofNat (8 * s)).toNat % 32 = 8 * s := by simp; omega
  rw [this, Nat.shiftLeft_eq, e0]; omega
 obtain ⟨q, hq⟩ := Nat.dvd_of_mod_eq_zero ho
 have e2 : (256 : Nat) ^ (s + 1) = 2 ^ (8 * (s + 1)) := by rw [Nat.pow_mul]
 have h3 := Nat.shiftLeft_add_eq_or_of_lt (i := 8 * (s + 1)) (b := x.toNat * 256 ^ s) (by rw [← e2]; exact hxs) q
 rw [Nat.shiftLeft_eq, ← e2] at h3
 rw [UInt32.toNat_or, e1, hq, Nat.mul_comm _ q, ← h3, Nat.mul_comm x.toNat]
theorem pRead_l1_is (n : Nat) (b : List UInt8) (hb : b.length ≤ 256) : ∀ (m i fu : Nat) (w : List UInt32), i + m = b.length → m < fu → w.length = (b.length + 3) / 4 → nV w = nB (b.take i) * 256 ^ (b.length - i) →
  ∃ r, pRead_l1 n b b.length fu w (i : Int) = some (r, (b.length + 3) / 4, none) ∧ r.length = (b.length + 3) / 4 ∧ nV r = nB b := by
 have t0 : Int.tdiv (((b.length : Nat) : Int) + 3) 4 = (((b.length + 3) / 4 : Nat) : Int) := by rw [Int.tdiv_eq_ediv_of_nonneg (by omega)]; omega
 intro m
 induction m with
 | zero =>
  intro i fu w hi hf hw hv
  cases fu with
  | zero => omega
  | succ fu =>
   refine ⟨w, by rw [pRead_l1, ite_f (by simp <;> omega), t0, Int.toNat_natCast], hw, ?_⟩
   rw [hv, List.take_of_length_le (by omega), show b.length - i = 0 by omega]; simp
 | succ m ih =>
  intro i fu w hi hf hw hv
  cases fu with
  | zero => omega
  | succ fu =>
   obtain ⟨at', hat⟩ : ∃ k, k = b.length - 1 - i := ⟨_, rfl⟩
   have e1 : (((b.length : Nat) : Int) - 1) - (i : Int) = (at' : Int) := by omega
   have t1 : Int.tdiv (at' : Int) 4 = ((at' / 4 : Nat) : Int) := by rw [Int.tdiv_eq_ediv_of_nonneg (by omega)]; omega
   have t2 : 8 * Int.tmod (at' : Int) 4 = ((8 * (at' % 4) : Nat) : Int) := by rw [Int.tmod_eq_emod_of_nonneg (by omega)]; omega
   rw [pRead_l1, ite_t (by simp <;> omega), e1, t0, t1, t2, Int.toNat_natCast, Int.toNat_natCast, Int.toNat_natCast]
   rw [gd_pos (by omega), gd_pos (by omega), gd_pos (okI64 (by omega) (by omega)), gd_pos (okI64 (by omega) (by omega)), gd_pos (by decide), gd_pos (okI64 (by omega) (by omega)), gd_pos (by omega), gd_pos (by omega), gd_pos (by decide), gd_pos (okI64 (by omega) (by omega)), gd_pos (by omega), gd_pos (by omega), gd_pos (by omega), gd_pos (okI64 (by omega) (by omega))]
   have hk : at' / 4 < w.length := by omega
   have hpw : (4294967296 : Nat) ^ (at' / 4) = 256 ^ (4 * (at' / 4)) := by rw [Nat.pow_mul]
   have hg := limb_get w (at' / 4) hk
   have hz : (w.getD (at' / 4) 0).toNat % 256 ^ (at' % 4 + 1) = 0 := by
    rw [← hg, hv, show b.length - i = 4 * (at' / 4) + (at' % 4 + 1) by omega, hpw, Nat.pow_add, Nat.mul_comm (256 ^ (4 * (at' / 4))), ← Nat.mul_assoc, Nat.mul_div_cancel _ (Nat.pow_pos (by decide))]
    have e3 : (4294967296 : Nat) = 256 ^ (at' % 4 + 1) * 256 ^ (3 - at' % 4) := by rw [← Nat.pow_add, show at' % 4 + 1 + (3 - at' % 4) = 4 by omega]
    rw [e3, Nat.mod_mul_right_mod]; exact Nat.mul_mod_left _ _
   have ho := or_byte (w.getD (at' / 4) 0) (b.getD i 0) (at' % 4) (by omega) hz
   have hV := V_set w (at' / 4) (w.getD (at' / 4) 0 ||| shl32 (b.getD i 0).toUInt32 ((8 * (at' % 4) : Nat) : Int)) hk
   generalize w.getD (at' / 4) 0 ||| shl32 (b.getD i 0).toUInt32 ((8 * (at' % 4) : Nat) : Int) = o at *
   refine ih (i + 1) fu _ (by omega) (by omega) (by rw [List.length_set]; exact hw) ?_
   have e4 : b.take (i + 1) = b.take i ++ [b.getD i 0] := by
    rw [List.take_succ_eq_append_getElem (by omega), List.getD_eq_getElem?_getD, List.getElem?_eq_getElem (by omega)]; rfl
   have e5 : 256 ^ (b.length - i) = 256 * 256 ^ at' := by rw [show b.length - i = at' + 1 by omega, Nat.pow_succ, Nat.mul_comm]
   have e6 : (256 : Nat) ^ at' = 4294967296 ^ (at' / 4) * 256 ^ (at' % 4) := by rw [hpw, ← Nat.pow_add]; congr 1; omega
   rw [e4, nB_snoc, show b.length - (i + 1) = at' by omega]
   rw [e5] at hv
   have : nV (w.set (at' / 4) o) = nV w + 256 ^ at' * (b.getD i 0).toNat := by
    rw [ho, Nat.mul_add, ← Nat.mul_assoc, ← e6] at hV
    omega
   rw [this, hv]; grind
theorem D_len_dB (v : Nat) : (nD v).length = ((dB v).length + 3) / 4 := by
 have h : ∀ k, (nD v).length ≤ k ↔ (dB v).length ≤ 4 * k := fun k => by rw [D_len, dB_len, Nat.pow_mul]
 have h2 := (h (((dB v).length + 3) / 4)).2 (by omega)
 have h3 := (h (nD v).length).1 (Nat.le_refl _)
 omega
theorem pRead_l2_is {n : Nat} (hn : 18446744073709551616 ≤ n) (v : Nat) : ∀ (m fu : Nat) (l : List UInt8), l.length = m → m < fu → l.length ≤ 100000 → nB l = v →
  pRead_l2 n fu l l.length = some (if 256 < (dB v).length then ([], 0, some 4) else (nD v, (nD v).length, none)) := by
 have fin : ∀ (l : List UInt8), l.length ≤ 100000 → nB l = v → (l = [] ∨ (l.getD 0 0).toNat ≠ 0) → pRead_j1 n l l.length = some (if 256 < (dB v).length then ([], 0, some 4) else (nD v, (nD v).length, none)) := by
  intro l hl hv h0
  have hd := dB_of h0
  rw [hv] at hd
  unfold pRead_j1
  by_cases h256 : 256 < l.length
  ·rw [ite_t (by simp; omega), hd, if_pos h256]
  ·have t0 : Int.tdiv (((l.length : Nat) : Int) + 3) 4 = (((l.length + 3) / 4 : Nat) : Int) := by rw [Int.tdiv_eq_ediv_of_nonneg (by omega)]; omega
   rw [ite_f (by simp; omega), hd, if_neg h256, t0, Int.toNat_natCast, gd_pos (okI64 (by omega) (by omega)), gd_pos (by decide), gd_pos (okI64 (by omega) (by omega)), gd_pos (by omega), gd_pos (by trivial), gd_pos (by unfold rmB; omega)]
   obtain ⟨r, h1, h2, h3⟩ := pRead_l1_is n l (by omega) l.length 0 n (List.replicate ((l.length + 3) / 4) 0) (by omega) (by omega) (by simp) (by rw [V_rep]; simp [nB_nil])
   have hlen : (nD v).length = (l.length + 3) / 4 := by rw [D_len_dB, hd]
   have hr : r = nD v := V_inj (by rw [h2, hlen]) (by rw [h3, V_D, hv])
   rw [hr] at h1
   rw [hlen]
   exact h1
 intro m
 induction m with
 | zero =>
  intro fu l hl hf h8 hv
  cases fu with
  | zero => omega
  | succ fu =>
   obtain rfl := List.eq_nil_of_length_eq_zero hl
   rw [pRead_l2, ite_f (by simp)]
   exact fin [] h8 hv (.inl rfl)
 | succ m ih =>
  intro fu l hl hf h8 hv
  cases fu with
  | zero => omega
  | succ fu =>
   match l, hl with
   | x :: l, hl =>
    rw [pRead_l2, ite_t (by simp <;> omega), gd_pos (by omega), gd_pos (by simp <;> omega)]
    simp only [List.getD_cons_zero]
    by_cases hx : x = 0
    ·rw [ite_t (by rw [hx]; rfl), gd_pos (by omega), gd_pos (by simp; omega)]
     have e : ((x :: l).drop 1).take ((x :: l).length - 1) = l := by simp
     rw [e, show (x :: l).length - 1 = l.length by simp]
     exact ih fu l (by simpa using hl) (by omega) (by simp at h8; omega) (by rw [← hv, nB_cons, hx]; simp)
    ·rw [ite_f (by simp only [beq_eq_false_iff_ne]; exact hx)]
     exact fin (x :: l) h8 hv (.inr (by simp only [List.getD_cons_zero]; exact fun h => hx (UInt8.toNat_inj.1 h)))
theorem pRead_is {n : Nat} (hn : 18446744073709551616 ≤ n) {l : List UInt8} (hl : l.length ≤ 100000) : pRead n l = some (if 256 < (dB (nB l)).length then ([], 0, some 4) else (nD (nB l), (nD (nB l)).length, none)) :=
 pRead_l2_is hn (nB l) l.length n l rfl (by omega) hl rfl
def padB (k v : Nat) : List UInt8 := List.replicate (k - (dB v).length) 0 ++ dB v
theorem padB_len {k v : Nat} (h : v < 256 ^ k) : (padB k v).length = k := by
 have := (dB_len v k).2 h
 unfold padB; simp; omega
theorem nB_app0 (k : Nat) (l : List UInt8) : nB (List.replicate k 0 ++ l) = nB l := by
 induction k with
 | zero => rfl
 | succ k ih => rw [List.replicate_succ, List.cons_append, nB_cons, ih]; simp
theorem nB_padB (k v : Nat) : nB (padB k v) = v := by unfold padB; rw [nB_app0, nB_dB]
theorem eq_padB {k v : Nat} {l : List UInt8} (hl : l.length = k) (hv : nB l = v) : l = padB k v := by
 have hlt : v < 256 ^ k := by rw [← hv, ← hl]; exact nB_lt l
 exact nB_inj (by rw [hl, padB_len hlt]) (by rw [hv, nB_padB])
theorem pWrite_lk (n : Nat) (a : List UInt32) (v : Nat) (ha : (a.drop 0).take (nD v).length = nD v) (h64 : (nD v).length ≤ 64) (s : Nat) (hs : s ≤ 256) : ∀ (m i fu : Nat) (l : List UInt8), i + m = 4 * (nD v).length → m < fu → (i ≤ s → Wr l s i v) → (s ≤ i → Wr l s s v ∧ v % 256 ^ i = v % 256 ^ s) →
  pWrite_l1 n a (s : Int) (a, (nD v).length) fu l (i : Int) = some (if v < 256 ^ s then (padB s v, s, none) else ([], 0, some 1)) := by
 intro m
 induction m with
 | zero =>
  intro i fu l hi hf h1 h2
  cases fu with
  | zero => omega
  | succ fu =>
   have hvi : v % 256 ^ i = v := Nat.mod_eq_of_lt (by
    have := (D_len v (nD v).length).1 (Nat.le_refl _)
    rwa [show (4294967296 : Nat) = 256 ^ 4 from rfl, ← Nat.pow_mul, show 4 * (nD v).length = i by omega] at this)
   have fin : l.length = s ∧ nB l = v := by
    by_cases hle : i ≤ s
    ·have := h1 hle; exact ⟨this.len, by rw [this.val]; exact hvi⟩
    ·have := h2 (by omega); exact ⟨this.1.len, by rw [this.1.val, ← this.2]; exact hvi⟩
   have hlt : v < 256 ^ s := by rw [← fin.2, ← fin.1]; exact nB_lt l
   rw [pWrite_l1, ite_f (by simp <;> omega), if_pos hlt, Int.toNat_natCast, eq_padB fin.1 fin.2]
 | succ m ih =>
  intro i fu l hi hf h1 h2
  cases fu with
  | zero => omega
  | succ fu =>
   have t1 : Int.tdiv (i : Int) 4 = ((i / 4 : Nat) : Int) := by rw [Int.tdiv_eq_ediv_of_nonneg (by omega)]; omega
   have t2 : 8 * Int.tmod (i : Int) 4 = ((8 * (i % 4) : Nat) : Int) := by rw [Int.tmod_eq_emod_of_nonneg (by omega)]; omega
   have e1 : ((s : Int) - 1 - (i : Int)).toNat = s - 1 - i := by omega
   have e2 := shr32_is ((nD v).getD (i / 4) 0) (8 * (i % 4)) (by omega)
   have hb : ((shr32 ((nD v).getD (i / 4) 0) ((8 * (i % 4) : Nat) : Int)).toUInt8).toNat = v / 256 ^ i % 256 := by rw [UInt32.toNat_toUInt8, e2, D_get, ← limb_byte]
   rw [pWrite_l1, ite_t (by simp <;> omega), t1, t2, e1, gd_pos (by decide), gd_pos (okI64 (by omega) (by omega)), gd_pos (by omega), gd_pos (by omega), gd_pos (by decide), gd_pos (okI64 (by omega) (by omega)), gd_pos (by omega)]
   simp only [ha, Int.toNat_natCast]
   generalize (shr32 ((nD v).getD (i / 4) 0) ((8 * (i % 4) : Nat) : Int)).toUInt8 = x at hb
   by_cases hlt : i < s
   ·rw [ite_t (decide_eq_true (by omega)), gd_pos (okI64 (by omega) (by omega)), gd_pos (okI64 (by omega) (by omega)), gd_pos (by omega), gd_pos (by omega)]
    unfold pWrite_j1
    rw [gd_pos (okI64 (by omega) (by omega))]
    have hw := (h1 (by omega)).step hlt hb
    refine ih (i + 1) fu _ (by omega) (by omega) (fun _ => hw) (fun hge => ?_)
    obtain rfl : s = i + 1 := by omega
    exact ⟨hw, rfl⟩
   ·rw [ite_f (decide_eq_false (by omega))]
    by_cases hx : x = 0
    ·subst hx
     rw [ite_f (by simp)]
     unfold pWrite_j1
     rw [gd_pos (okI64 (by omega) (by omega))]
     have := h2 (by omega)
     refine ih (i + 1) fu l (by omega) (by omega) (fun hle => by omega) (fun _ => ⟨this.1, ?_⟩)
     rw [mod_step, ← hb, this.2]; simp
    ·rw [ite_t (by simpa using hx)]
     have hne : v / 256 ^ i % 256 ≠ 0 := by rw [← hb]; exact fun h => hx (UInt8.toNat_inj.1 (by rw [h]; rfl))
     have hge : 256 ^ s ≤ v := by
      have h3 : 256 ^ i ≤ v := Nat.le_of_not_lt fun h => hne (by rw [Nat.div_eq_of_lt h])
      exact Nat.le_trans (Nat.pow_le_pow_right (by decide) (by omega)) h3
     rw [if_neg (by omega)]
theorem pWrite_k {n : Nat} (hn : 18446744073709551616 ≤ n) {a : List UInt32} (ha : a.length ≤ 1000000) {s : Nat} (hs : s ≤ 256) :
  pWrite n a (s : Int) = some (if (nD (nV a)).length ≤ 64 then (if nV a < 256 ^ s then (padB s (nV a), s, none) else ([], 0, some 1)) else ([], 0, some 4)) := by
 unfold pWrite
 rw [ptrim_is hn ha, Option.bind_some]
 by_cases h : (nD (nV a)).length ≤ 64
 ·rw [ite_f (by simp <;> omega), ite_f (by simp <;> omega), ite_f (by simp <;> omega), gd_pos (by omega), gd_pos rfl, gd_pos (by unfold rmB; omega), gd_pos (okI64 (by omega) (by omega)), if_pos h]
  exact pWrite_lk n a (nV a) (tk ha) h s hs (4 * (nD (nV a)).length) 0 n _ (by omega) (by omega) (fun _ => Wr.start _ _) (fun h0 => by
   obtain rfl : s = 0 := by omega
   exact ⟨Wr.start _ _, rfl⟩)
 ·rw [ite_t (by simp <;> omega), if_neg h]
end Go.Sx
end
section
namespace Go.Proofs.YthichmclbiggmaaDoor
open Go.RowKit Go.Ch Go.Sx
def hbit (n : Nat) (a0 : UInt32) (a1 : Int) : Option (UInt32) :=
 bif (decide (a1 < (0 : Int))) then
 some 0
 else
 gd (okI .i64 (31 - a1)) <|
 gd (0 ≤ (31 - a1)) <|
 some ((shr32 a0 (31 - a1)) &&& (1 : UInt32))
end Go.Proofs.YthichmclbiggmaaDoor
end
section
namespace Go.Sx
open Go Go.RowKit Go.Ch Go.Proofs.YthichmclbiggmaaDoor
def N64 : Nat := 18446744073709551616
abbrev Dg (l : List UInt8) : List UInt8 := digest consts begin8 l
theorem Dg_len (l : List UInt8) : (Dg l).length = 32 := length_digest _ _ _
end Go.Sx
end
section
namespace Go.Sx
open Go Go.RowKit Go.Ch Go.Proofs.YthichmclbiggmaaDoor
theorem E2 (v : Nat) {k : Nat} (h : (nD v).length ≤ k) : (nE v).length ≤ 2 * k := by
 rw [E_len, Nat.pow_mul]; exact (D_len v k).1 h
theorem D_of_dB {v k : Nat} (h : (dB v).length ≤ k) : (nD v).length ≤ (k + 3) / 4 := by rw [D_len_dB]; omega
theorem ksize_l1_is {n : Nat} (hn : 18446744073709551616 ≤ n) {a : List UInt32} (ha : a.length ≤ 1000000) : ∀ (m i fu : Nat), i + m = 129 → m < fu → i ≤ (dB (nV a)).length →
  ksize_l1 n a fu (i : Int) = some (if (dB (nV a)).length ≤ 128 then (((dB (nV a)).length : Nat) : Int) else -1) := by
 intro m
 induction m with
 | zero =>
  intro i fu hi hf hle
  cases fu with
  | zero => omega
  | succ fu => rw [ksize_l1, ite_f (by simp; omega), if_neg (by omega)]
 | succ m ih =>
  intro i fu hi hf hle
  cases fu with
  | zero => omega
  | succ fu =>
   rw [ksize_l1, ite_t (by simp; omega), pWrite_k hn ha (show i ≤ 256 by omega), Option.bind_some]
   by_cases h : (dB (nV a)).length ≤ i
   ·have h1 := (dB_len _ _).1 h
    have h2 := D_of_dB h
    rw [if_pos (by omega), if_pos h1, ite_t (by rfl), if_pos (by omega)]
    congr 1; omega
   ·have h1 : ¬ nV a < 256 ^ i := fun h' => h ((dB_len _ _).2 h')
    have key : (((if (nD (nV a)).length ≤ 64 then (if nV a < 256 ^ i then (padB i (nV a), i, none) else ([], 0, some 1)) else ([], 0, some 4)) : List UInt8 × Nat × Option Int).2.2).isNone = false := by
     rw [if_neg h1]; split <;> rfl
    rw [ite_f key, gd_pos (okI64 (by omega) (by omega))]
    exact ih (i + 1) fu (by omega) (by omega) (by omega)
theorem ksize_is {n : Nat} (hn : 18446744073709551616 ≤ n) {a : List UInt32} (ha : a.length ≤ 1000000) :
  ksize n a = some (if (dB (nV a)).length ≤ 128 then (((dB (nV a)).length : Nat) : Int) else -1) :=
 ksize_l1_is hn ha 129 0 n rfl (by omega) (Nat.zero_le _)
theorem and1 (x : UInt32) : ((x &&& (1 : UInt32)) == 1) = decide (x.toNat % 2 = 1) := by
 have e : (x &&& (1 : UInt32)).toNat = x.toNat % 2 := by rw [UInt32.toNat_and]; exact Nat.and_one_is_mod _
 by_cases h : x.toNat % 2 = 1
 ·rw [decide_eq_true h, beq_iff_eq]; exact UInt32.toNat_inj.1 (by rw [e, h]; rfl)
 ·rw [decide_eq_false h, beq_eq_false_iff_ne]; intro h2; rw [h2] at e; exact h e.symm
theorem V_mod2 (a : List UInt32) : nV a % 2 = (a.getD 0 0).toNat % 2 := by
 cases a with
 | nil => rfl
 | cons x t => rw [V_cons]; simp; omega
theorem kodd_is (n : Nat) {a : List UInt32} (ha : a.length ≤ 1000000) : kodd n a = some (decide (nV a % 2 = 1)) := by
 unfold kodd
 cases a with
 | nil => rfl
 | cons x t =>
  rw [ite_t (by simp <;> omega), gd_pos (by omega), gd_pos (by simp <;> omega), and1, V_mod2]
def okP (N E : Nat) : Bool := decide (62 ≤ (dB N).length) && (decide ((dB N).length ≤ 128) && (decide (N % 2 = 1) && (decide (E % 2 = 1) && (decide (3 ≤ E) && decide (E < N)))))
theorem okP_iff {N E : Nat} : okP N E = true ↔ 62 ≤ (dB N).length ∧ (dB N).length ≤ 128 ∧ N % 2 = 1 ∧ E % 2 = 1 ∧ 3 ≤ E ∧ E < N := by simp [okP]
def secS (N E D : Nat) : Bool := okP N E && (decide (D ≠ 0) && decide (D < N))
theorem V_three : nV [3] = 3 := rfl
theorem kCheck_is {n : Nat} (hn : 18446744073709551616 ≤ n) {a b : List UInt32} (ha : a.length ≤ 1000000) (hb : b.length ≤ 1000000) : kCheck n a b = some (if okP (nV a) (nV b) then none else some 1) := by
 have no : ∀ {q : Prop}, ¬ (62 ≤ (dB (nV a)).length ∧ (dB (nV a)).length ≤ 128 ∧ nV a % 2 = 1 ∧ nV b % 2 = 1 ∧ 3 ≤ nV b ∧ nV b < nV a) → (some (some 1) : Option (Option Int)) = some (if okP (nV a) (nV b) then none else some 1) := fun h => by
  rw [if_neg (fun h' => h (okP_iff.1 h'))]
 unfold kCheck
 rw [ksize_is hn ha, Option.bind_some]
 by_cases h1 : 62 ≤ (dB (nV a)).length ∧ (dB (nV a)).length ≤ 128
 ·rw [if_pos h1.2, ite_f (by simp; omega), kodd_is n ha, Option.bind_some]
  by_cases h2 : nV a % 2 = 1
  ·rw [ite_f (by simp [h2]), kodd_is n hb, Option.bind_some]
   by_cases h3 : nV b % 2 = 1
   ·rw [ite_f (by simp [h3]), pCmp_is hn hb (by decide), Option.bind_some, V_three]
    by_cases h4 : nV b < 3
    ·rw [ite_t (by simpa using cmpN_neg.2 h4)]; exact no (q := True) (by omega)
    ·rw [ite_f (by simpa using fun h => h4 (cmpN_neg.1 h)), pCmp_is hn hb ha, Option.bind_some]
     by_cases h5 : nV b < nV a
     ·rw [ite_f (by simpa using cmpN_neg.2 h5), if_pos (okP_iff.2 ⟨h1.1, h1.2, h2, h3, by omega, h5⟩)]
     ·rw [ite_t (by simpa using fun h => h5 (cmpN_neg.1 h))]; exact no (q := True) (by omega)
   ·rw [ite_t (by simp [h3])]; exact no (q := True) (by omega)
  ·rw [ite_t (by simp [h2])]; exact no (q := True) (by omega)
 ·have : (if (dB (nV a)).length ≤ 128 then (((dB (nV a)).length : Nat) : Int) else -1) < 62 := by split <;> omega
  rw [ite_t (by simpa using this)]; exact no (q := True) (by omega)
theorem ksecret_is {n : Nat} (hn : 18446744073709551616 ≤ n) {a b c : List UInt32} (ha : a.length ≤ 1000000) (hb : b.length ≤ 1000000) (hc : c.length ≤ 1000000) : ksecret n a b c = some (if secS (nV a) (nV b) (nV c) then none else some 1) := by
 unfold ksecret
 rw [kCheck_is hn ha hb, Option.bind_some]
 unfold secS
 cases h : okP (nV a) (nV b) with
 | false => simp
 | true =>
  rw [ite_f (by simp), pCmp_is hn hc (by decide), Option.bind_some, V_nil]
  by_cases h0 : nV c = 0
  ·rw [ite_t (by simpa using cmpN_zero.2 h0), if_neg (by simp [h0])]
  ·rw [ite_f (by simpa using fun h => h0 (cmpN_zero.1 h)), pCmp_is hn hc ha, Option.bind_some]
   by_cases h1 : nV c < nV a
   ·rw [ite_f (by simpa using cmpN_neg.2 h1), if_pos (by simp [h0, h1])]
   ·rw [ite_t (by simpa using fun h => h1 (cmpN_neg.1 h)), if_neg (by simp [h1])]
def powS (b : List UInt8) (e N : Nat) : List UInt8 × Nat × Bool := if b.length = (dB N).length ∧ nB b < N then (padB (dB N).length (nB b ^ e % N), (dB N).length, true) else ([], 0, false)
theorem kpower_is {n : Nat} (hn : 18446744073709551616 ≤ n) {b : List UInt8} {e N : List UInt32} (hb : b.length ≤ 100000) (he : e.length ≤ 1000000) (hN : N.length ≤ 1000000) (hs : (dB (nV N)).length ≤ 128) (hD : (nD (nV e)).length ≤ 64) :
  kpower n b e N = some (powS b (nV e) (nV N)) := by
 unfold kpower powS
 have hDN := D_of_dB hs
 rw [ksize_is hn hN, Option.bind_some, if_pos hs, pRead_is hn hb, Option.bind_some]
 by_cases h1 : b.length = (dB (nV N)).length
 ·have hle : (dB (nB b)).length ≤ b.length := (dB_len _ _).2 (nB_lt b)
  have hDb := D_of_dB (v := nB b) (k := 128) (by omega)
  rw [if_neg (by omega), ite_f (by rfl), ite_f (by simp [h1])]
  dsimp only
  rw [pCmp_is hn (by omega) hN, Option.bind_some, V_D]
  by_cases h2 : nB b < nV N
  ·have hm : nB b ^ nV e % nV N < nV N := Nat.mod_lt _ (by omega)
   have hw := (dB_len _ _).2 (Nat.lt_trans hm ((dB_len (nV N) _).1 (Nat.le_refl _)))
   have hDm := D_of_dB (Nat.le_trans hw hs)
   rw [ite_f (by simpa using cmpN_neg.2 h2), pExp_is hn (by omega) he hN, V_D, if_pos ⟨by omega, hD, by omega⟩, if_neg (by omega), Option.bind_some, ite_f (by rfl)]
   dsimp only
   rw [pWrite_k hn (by omega) (by omega), Option.bind_some, V_D, if_pos (by omega), if_pos ((dB_len _ _).1 hw), if_pos ⟨h1, h2⟩]
   rfl
  ·rw [ite_t (by simpa using fun h => h2 (cmpN_neg.1 h)), if_neg (fun h => h2 h.2)]
 ·rw [if_neg (c := b.length = (dB (nV N)).length ∧ nB b < nV N) (fun h => h1 h.1)]
  split
  ·rw [ite_t (by rfl)]
  ·rw [ite_f (by rfl), ite_t (by simp only [bne_iff_ne]; omega)]
def fz : List UInt8 → Nat
 | [] => 0
 | x :: l => if x = 0 then 0 else fz l + 1
theorem drop_cons {l : List UInt8} {i : Nat} (h : i < l.length) : l.drop i = l.getD i 0 :: l.drop (i + 1) := by
 rw [List.drop_eq_getElem_cons h, List.getD_eq_getElem?_getD, List.getElem?_eq_getElem h]; rfl
theorem fz_drop {l : List UInt8} {i : Nat} (h : i < l.length) : fz (l.drop i) = if l.getD i 0 = 0 then 0 else fz (l.drop (i + 1)) + 1 := by
 rw [drop_cons h]; rfl
theorem kIndex_l1_is (n : Nat) (a : List UInt8) (ha : a.length ≤ 1000000) : ∀ (m i fu : Nat), i + m = a.length → m < fu → kIndex_l1 n a 0 fu (i : Int) = some (if i + fz (a.drop i) < a.length then ((i + fz (a.drop i) : Nat) : Int) else -1) := by
 intro m
 induction m with
 | zero =>
  intro i fu hi hf
  cases fu with
  | zero => omega
  | succ fu => rw [kIndex_l1, ite_f (by simp; omega), if_neg (by omega)]
 | succ m ih =>
  intro i fu hi hf
  cases fu with
  | zero => omega
  | succ fu =>
   rw [kIndex_l1, ite_t (by simp; omega), gd_pos (by omega), gd_pos (by omega), Int.toNat_natCast, fz_drop (show i < a.length by omega)]
   by_cases h : a.getD i 0 = 0
   ·rw [ite_t (by rw [h]; rfl), if_pos h, if_pos (by omega)]; rfl
   ·rw [ite_f (by simp only [beq_eq_false_iff_ne]; exact fun e => h e.symm), if_neg h, gd_pos (okI64 (by omega) (by omega))]
    have := ih (i + 1) fu (by omega) (by omega)
    rw [show ((i : Int) + 1) = ((i + 1 : Nat) : Int) from rfl, this, show i + (fz (a.drop (i + 1)) + 1) = i + 1 + fz (a.drop (i + 1)) by omega]
theorem kIndex_is {n : Nat} (hn : 18446744073709551616 ≤ n) {a : List UInt8} (ha : a.length ≤ 1000000) : kIndex n a 0 = some (if fz a < a.length then ((fz a : Nat) : Int) else -1) := by
 have := kIndex_l1_is n a ha a.length 0 n (by omega) (by omega)
 simpa [kIndex] using this
theorem klight_is (n : Nat) (a b c : List UInt32) : klight n a b c = some (decide (a.length ≤ 70 ∧ b.length ≤ 70 ∧ c.length ≤ 70)) := by
 unfold klight
 by_cases h1 : a.length ≤ 70
 ·rw [ite_t (by simp; omega)]
  by_cases h2 : b.length ≤ 70
  ·rw [ite_t (by simp; omega)]; congr 1; exact decide_eq_decide.2 (by omega)
  ·rw [ite_f (by simp; omega), decide_eq_false (by omega)]
 ·rw [ite_f (by simp; omega), decide_eq_false (by omega)]
theorem kContains_is {n : Nat} (hn : 18446744073709551616 ≤ n) {a : List UInt8} (ha : a.length ≤ 1000000) : kContains n a 0 = some (decide (fz a < a.length)) := by
 unfold kContains
 rw [kIndex_is hn ha, Option.bind_some]
 congr 1
 by_cases h : fz a < a.length
 ·rw [if_pos h, decide_eq_true h, decide_eq_true (by omega)]
 ·rw [if_neg h, decide_eq_false h]; rfl
def hidS (k : Nat) (t f : List UInt8) : List UInt8 × Nat :=
 if k < t.length + 11 then ([], 4) else if f.length + 3 + t.length ≠ k then ([], 1) else if fz f < f.length then ([], 1) else ([0, 2] ++ f ++ [0] ++ t, 0)
def hideS (k e N : Nat) (t f : List UInt8) : List UInt8 × Nat × Option Int :=
 if (hidS k t f).2 = 0 then ((powS (hidS k t f).1 e N).1, (powS (hidS k t f).1 e N).2.1, none) else ([], 0, some ((hidS k t f).2 : Int))
theorem kHide_is {n : Nat} (hn : 18446744073709551616 ≤ n) {N E : List UInt32} {t f : List UInt8} (hN : N.length ≤ 1000000) (hE : E.length ≤ 1000000) (ht : t.length ≤ 10000) (hf : f.length ≤ 10000) :
  kHide n N E t f = some (if okP (nV N) (nV E) then hideS (dB (nV N)).length (nV E) (nV N) t f else ([], 0, some 1)) := by
 unfold kHide
 rw [kCheck_is hn hN hE, Option.bind_some]
 cases hP : okP (nV N) (nV E) with
 | false => rfl
 | true =>
  obtain ⟨k1, k2, _, _, _, hlt⟩ := okP_iff.1 hP
  have hDD : (nD (nV E)).length ≤ 64 := Nat.le_trans (D_mono (Nat.le_of_lt hlt)) (by have := D_of_dB k2; omega)
  rw [if_pos rfl, ite_f (by rfl), ksize_is hn hN, Option.bind_some, if_pos k2, if_pos rfl, gd_pos (okI64 (by omega) (by omega))]
  unfold hideS hidS
  by_cases h1 : (dB (nV N)).length < t.length + 11
  ·rw [ite_t (by simp; omega), if_pos h1]; rfl
  ·rw [ite_f (by simp; omega), if_neg h1, gd_pos (okI64 (by omega) (by omega)), gd_pos (okI64 (by omega) (by omega))]
   by_cases h2 : f.length + 3 + t.length ≠ (dB (nV N)).length
   ·rw [ite_t (by simp only [bne_iff_ne]; omega), if_pos h2]; rfl
   ·rw [ite_f (by simp only [bne_eq_false_iff_eq]; omega), if_neg h2, kContains_is hn (by omega), Option.bind_some]
    by_cases h3 : fz f < f.length
    ·rw [ite_t (by simpa using h3), if_pos h3]; rfl
    ·have e : ([[0, 2], f, [0], t] : List (List UInt8)).flatten = [0, 2] ++ f ++ [0] ++ t := by simp
     rw [ite_f (by simpa using h3), if_neg h3, gd_pos (by simp), e, gd_pos (by simp; omega), kpower_is hn (by simp; omega) hE hN k2 hDD, Option.bind_some]
     rfl
theorem nB_lt_N {b l : List UInt8} {N : Nat} (hb : b = 0 :: l) (h : b.length = (dB N).length) : nB b < N := by
 subst hb
 rw [nB_cons]
 have h1 := nB_lt l
 have h2 : ¬ N < 256 ^ l.length := fun h' => by have := (dB_len N l.length).2 h'; simp at h; omega
 have h3 : (0 : UInt8).toNat = 0 := rfl
 rw [h3]
 omega
theorem powS_fits {b l : List UInt8} {e N : Nat} (hb : b = 0 :: l) (h : b.length = (dB N).length) : powS b e N = (padB (dB N).length (nB b ^ e % N), (dB N).length, true) := if_pos ⟨h, nB_lt_N hb h⟩
def pfx : List UInt8 := [48, 49, 48, 13, 6, 9, 96, 134, 72, 1, 101, 3, 4, 2, 1, 5, 0, 4, 32]
def laidS (b : List UInt8) (k : Nat) : List UInt8 := [0, 1] ++ List.replicate (k - 54) 255 ++ [0] ++ pfx ++ Dg b
theorem laidS_len {b : List UInt8} {k : Nat} (h : 54 ≤ k) : (laidS b k).length = k := by
 unfold laidS pfx; simp [Dg_len]; omega
theorem laidS_head (b : List UInt8) (k : Nat) : ∃ l, laidS b k = 0 :: l := ⟨_, by unfold laidS; simp only [List.cons_append]; rfl⟩
theorem klaid_is {n : Nat} (hn : 18446744073709551616 ≤ n) {b : List UInt8} {k : Nat} (hb : b.length ≤ 100000) (h1 : 54 ≤ k) (h2 : k ≤ 200) : klaid n b (k : Int) = some (laidS b k) := by
 have e : ([pfx, Dg b] : List (List UInt8)).flatten = pfx ++ Dg b := by simp
 have el : (pfx ++ Dg b).length = 51 := by unfold pfx; simp [Dg_len]
 have e3 : ((k : Int) - 3 - ((51 : Nat) : Int)).toNat = k - 54 := by omega
 have e2 : ([[0, 1], List.replicate (k - 54) (([255] : List UInt8).getD 0 0), [0], pfx ++ Dg b] : List (List UInt8)).flatten = laidS b k := by unfold laidS; simp
 unfold klaid
 rw [show kprefix n = some () from rfl, Option.bind_some, gsum_is (by omega) hb, Option.bind_some]
 change gd (([pfx, Dg b] : List (List UInt8)).length ≤ 1000000) (gd (([pfx, Dg b] : List (List UInt8)).flatten.length ≤ 1000000000) (gd (okI .i64 ((k : Int) - 3)) (gd (okI .i64 ((k : Int) - 3 - ((([pfx, Dg b] : List (List UInt8)).flatten.length : Nat) : Int))) (gd (([255] : List UInt8).length = 1) (gd (0 ≤ ((k : Int) - 3 - ((([pfx, Dg b] : List (List UInt8)).flatten.length : Nat) : Int))) (gd (((k : Int) - 3 - ((([pfx, Dg b] : List (List UInt8)).flatten.length : Nat) : Int)) ≤ 200)
  (gd (([[0, 1], List.replicate ((k : Int) - 3 - ((([pfx, Dg b] : List (List UInt8)).flatten.length : Nat) : Int)).toNat (([255] : List UInt8).getD 0 0), [0], ([pfx, Dg b] : List (List UInt8)).flatten] : List (List UInt8)).length ≤ 1000000) (gd (([[0, 1], List.replicate ((k : Int) - 3 - ((([pfx, Dg b] : List (List UInt8)).flatten.length : Nat) : Int)).toNat (([255] : List UInt8).getD 0 0), [0], ([pfx, Dg b] : List (List UInt8)).flatten] : List (List UInt8)).flatten.length ≤ 1000000000)
  (some (([[0, 1], List.replicate ((k : Int) - 3 - ((([pfx, Dg b] : List (List UInt8)).flatten.length : Nat) : Int)).toNat (([255] : List UInt8).getD 0 0), [0], ([pfx, Dg b] : List (List UInt8)).flatten] : List (List UInt8)).flatten)))))))))) = _
 rw [e, el, e3, e2, laidS_len h1]
 rw [gd_pos (by simp), gd_pos (by omega), gd_pos (okI64 (by omega) (by omega)), gd_pos (okI64 (by omega) (by omega)), gd_pos (by rfl), gd_pos (by omega), gd_pos (by omega), gd_pos (by simp), gd_pos (by omega)]
theorem secS_ok {N E D : Nat} (h : secS N E D = true) : okP N E = true ∧ D ≠ 0 ∧ D < N := by
 simp only [secS, Bool.and_eq_true, decide_eq_true_eq] at h
 exact ⟨h.1, h.2.1, h.2.2⟩
theorem D64 {N D : Nat} (k2 : (dB N).length ≤ 128) (h : D < N) : (nD D).length ≤ 64 := Nat.le_trans (D_mono (Nat.le_of_lt h)) (by have := D_of_dB k2; omega)
def sigS (N D : Nat) (b : List UInt8) : List UInt8 := padB (dB N).length (nB (laidS b (dB N).length) ^ D % N)
theorem pow_len (x e : Nat) {N : Nat} (h : 0 < N) : x ^ e % N < 256 ^ (dB N).length := Nat.lt_trans (Nat.mod_lt _ h) ((dB_len N _).1 (Nat.le_refl _))
theorem sigS_len {N D : Nat} (h : 0 < N) (b : List UInt8) : (sigS N D b).length = (dB N).length := padB_len (pow_len _ _ h)
theorem powS_laid {N : Nat} (e : Nat) (b : List UInt8) (h : 54 ≤ (dB N).length) : powS (laidS b (dB N).length) e N = (sigS N e b, (dB N).length, true) := by
 obtain ⟨l, hl⟩ := laidS_head b (dB N).length
 exact powS_fits hl (laidS_len h)
theorem kSign_is {n : Nat} (hn : 18446744073709551616 ≤ n) {N E D : List UInt32} {b : List UInt8} (hN : N.length ≤ 1000000) (hE : E.length ≤ 1000000) (hD : D.length ≤ 1000000) (hb : b.length ≤ 100000) :
  kSign n N E D b = some (if secS (nV N) (nV E) (nV D) then (sigS (nV N) (nV D) b, (dB (nV N)).length, none) else ([], 0, some 1)) := by
 unfold kSign
 rw [ksecret_is hn hN hE hD, Option.bind_some]
 cases hS : secS (nV N) (nV E) (nV D) with
 | false => rfl
 | true =>
  obtain ⟨hP, h0, hlt⟩ := secS_ok hS
  obtain ⟨k1, k2, _⟩ := okP_iff.1 hP
  rw [if_pos rfl, ite_f (by rfl), ksize_is hn hN, Option.bind_some, if_pos k2, klaid_is hn hb (by omega) (by omega), Option.bind_some, kpower_is hn (by rw [laidS_len (by omega)]; omega) hD hN k2 (D64 k2 hlt), Option.bind_some, powS_laid _ _ (by omega), if_pos rfl]
theorem kcut_is (n : Nat) (a : List UInt8) (k : Nat) : ∃ m, kcut n a (k : Int) = some (a, m) ∧ ((a.drop 0).take m).length ≤ k := by
 unfold kcut
 by_cases h : k < a.length
 ·exact ⟨k, by rw [ite_t (by simp; omega), gd_pos (by omega), gd_pos (by omega), Int.toNat_natCast], by simp; omega⟩
 ·exact ⟨a.length, by rw [ite_f (by simp; omega)], by simp; omega⟩
theorem kup_is : kup N64 = some true := by decide +kernel
theorem hN64 : 18446744073709551616 ≤ N64 := Nat.le_refl _
end Go.Sx
end
section
namespace Go.Proofs.YthichmclbiggmaaDoor
open Go.RowKit Go.Ch Go.Sx
def tabL_dvstays : List (TypeId × Ti) := [(4, ⟨.bool, 1, 1, true, some [.bool]⟩),
 (5, ⟨.int .u8, 1, 1, true, some [.int .u8]⟩),
 (9, ⟨.str, 1, 16, true, some [.str]⟩),
 (23, ⟨.sl 55, 1, 24, false, some [.nils]⟩),
 (25, ⟨.st [(23, 0), (23, 1), (23, 2)], 3, 72, false, some [.nils, .nils, .nils]⟩),
 (26, ⟨.sl 5, 1, 24, false, some [.nils]⟩),
 (31, ⟨.ifc, 1, 16, true, some [.ifc]⟩),
 (55, ⟨.int .u32, 1, 4, true, some [.int .u32]⟩)]
def tab_dvstays : Tab := fun t => (tabL_dvstays).lookup t
theorem tabE_dvstays : (tabL_dvstays.map fun p => tiOf Tryd.prog p.1) = tabL_dvstays.map fun p => some p.2 := by kernel_rfl
theorem tabO_dvstays : TabOk Tryd.prog tab_dvstays := tab_of tabE_dvstays
def lStays_l2 (n : Nat) (a0_0 : List UInt32) (a0_1 : List UInt32) (a0_2 : List UInt32) (a1 : List UInt8) (a2 : List UInt8) (a3 : List UInt8) (r25 : Bool) (r48 : List UInt8 × Nat) (r68 : List UInt8 × Nat × Option Int) (r76 : List UInt8 × Nat × Option Int) : Nat → List UInt8 → Int → Option (Bool)
 | 0, _, _ => none
 | fu_l2 + 1, l12_2, i19_2 =>
  bif (decide (i19_2 < ((([] ++ a2).length : Nat) : Int))) then
   gd (0 ≤ i19_2) <|
   gd (i19_2 < ((([] ++ a2).length : Nat) : Int)) <|
   gd (0 ≤ i19_2) <|
   gd (i19_2 < ((a2.length : Nat) : Int)) <|
   bif ((l12_2.getD i19_2.toNat 0) != (a2.getD i19_2.toNat 0)) then
    some false
   else
    gd (0 ≤ i19_2) <|
    gd (i19_2 < ((([] ++ a2).length : Nat) : Int)) <|
    gd (0 ≤ i19_2) <|
    gd (i19_2 < ((([] ++ a2).length : Nat) : Int)) <|
    gd (okI .i64 (i19_2 + 1)) <|
    (lStays_l2 n a0_0 a0_1 a0_2 a1 a2 a3 r25 r48 r68 r76 fu_l2) (l12_2.set i19_2.toNat ((l12_2.getD i19_2.toNat 0) + (1 : UInt8))) (i19_2 + 1)
  else
   (kSign n a0_0 a0_1 a0_2 ((a1.drop 0).take r48.2)).bind fun r124 =>
   (kHide n a0_0 a0_1 a2 a3).bind fun r132 =>
   (rOf n ([] ++ a0_0)).bind fun r137 =>
   (rOf n a0_0).bind fun r140 =>
   (rCmp n r137.1 r140.1).bind fun r141 =>
   bif (r141 == 0) then
    (rOf n ([] ++ a0_2)).bind fun r146 =>
    (rOf n a0_2).bind fun r149 =>
    (rCmp n r146.1 r149.1).bind fun r150 =>
    bif r25 then
     bif (r150 == 0) then
      bif (((r68.2.2).isNone) == ((r124.2.2).isNone)) then
       bif (((r76.2.2).isNone) == ((r132.2.2).isNone)) then
        gd (r124.1.length + r132.1.length ≤ 9223372036854775807) <|
        some ((r124.1 ++ r132.1) == (r68.1 ++ r76.1))
       else
        some false
      else
       some false
     else
      some false
    else
     some false
   else
    bif r25 then
     some false
    else
     some false
def lStays_l1 (n : Nat) (a0_0 : List UInt32) (a0_1 : List UInt32) (a0_2 : List UInt32) (a1 : List UInt8) (a2 : List UInt8) (a3 : List UInt8) (r25 : Bool) (r48 : List UInt8 × Nat) (r68 : List UInt8 × Nat × Option Int) (r76 : List UInt8 × Nat × Option Int) : Nat → List UInt8 → Int → Option (Bool)
 | 0, _, _ => none
 | fu_l1 + 1, l13_2, i18_2 =>
 bif (decide (i18_2 < ((r68.2.1 : Nat) : Int))) then
 gd (0 ≤ i18_2) <|
 gd (i18_2 < ((r68.2.1 : Nat) : Int)) <|
 gd (0 ≤ i18_2) <|
 gd (i18_2 < ((r68.2.1 : Nat) : Int)) <|
 gd (okI .i64 (i18_2 + 1)) <|
 (lStays_l1 n a0_0 a0_1 a0_2 a1 a2 a3 r25 r48 r68 r76 fu_l1) (l13_2.set i18_2.toNat ((l13_2.getD i18_2.toNat 0) + (1 : UInt8))) (i18_2 + 1)
 else
 lStays_l2 n a0_0 a0_1 a0_2 a1 a2 a3 r25 r48 r68 r76 n ([] ++ a2) 0
def lStays (n : Nat) (a0_0 : List UInt32) (a0_1 : List UInt32) (a0_2 : List UInt32) (a1 : List UInt8) (a2 : List UInt8) (a3 : List UInt8) : Option (Bool) :=
 (kup n).bind fun r25 =>
 (klight n a0_0 a0_1 a0_2).bind fun r27 =>
 bif (!r27) then
  some r25
 else
  bif (decide ((2 : Int) < ((a0_1.length : Nat) : Int))) then
   some r25
  else
   bif (decide ((300 : Int) < ((a2.length : Nat) : Int))) then
    some r25
   else
    bif (decide ((300 : Int) < ((a3.length : Nat) : Int))) then
     some r25
    else
     (kcut n a1 300).bind fun r48 =>
     gd (rmB (0 + a0_0.length) 4) <|
     gd (rmB (0 + a0_1.length) 4) <|
     gd (rmB (0 + a0_2.length) 4) <|
     gd (rmB (0 + a2.length) 1) <|
     (kSign n ([] ++ a0_0) ([] ++ a0_1) ([] ++ a0_2) ((a1.drop 0).take r48.2)).bind fun r68 =>
     (kHide n ([] ++ a0_0) ([] ++ a0_1) ([] ++ a2) a3).bind fun r76 =>
     gd (r68.1.length + r76.1.length ≤ 9223372036854775807) <|
     lStays_l1 n a0_0 a0_1 a0_2 a1 a2 a3 r25 r48 r68 r76 n r68.1 0
def lStays_l2_E (a0_0 : List UInt32) (a0_1 : List UInt32) (a0_2 : List UInt32) (a1 : List UInt8) (a2 : List UInt8) (a3 : List UInt8) (r25 : Bool) (r48 : List UInt8 × Nat) (r68 : List UInt8 × Nat × Option Int) (r76 : List UInt8 × Nat × Option Int) (l12_2 : List UInt8) (i19_2 : Int) : S := ⟨[(1, kH 0), (2, kH 1), (3, kH 2), (4, kP 3 0), (9, kB r25), (11, kP 7 0), (12, kH 11), (14, kE 34 r68.2.2), (16, kE 34 r76.2.2), (17, kT (r68.1 ++ r76.1)), (19, kI i19_2)], [], [⟨(.ro false), 5, 1, r48.2, .b ((a1.drop 0).take r48.2)⟩, ob 5 a2, ob 5 a3, ⟨.blk, 25, 1, 3, .c [.wh 4, .wh 5, .wh 6]⟩, ow 55 a0_0, ow 55 a0_1, ow 55 a0_2, ⟨.blk, 25, 1, 3, .c [.wh 8, .wh 9, .wh 10]⟩, nw 55 ([] ++ a0_0), nw 55 ([] ++ a0_1), nw 55 ([] ++ a0_2), ⟨.row, 5, 1, ([] ++ a2).length, .b l12_2⟩]⟩
abbrev lStays_l2_P (n : Nat) (a0_0 : List UInt32) (a0_1 : List UInt32) (a0_2 : List UInt32) (a1 : List UInt8) (a2 : List UInt8) (a3 : List UInt8) (r25 : Bool) (r48 : List UInt8 × Nat) (r68 : List UInt8 × Nat × Option Int) (r76 : List UInt8 × Nat × Option Int) (r : Bool) (fu : Nat) : S → Prop := fun s => ∃ (l12_2 : List UInt8), ∃ (i19_2 : Int), s = lStays_l2_E a0_0 a0_1 a0_2 a1 a2 a3 r25 r48 r68 r76 l12_2 i19_2 ∧ lStays_l2 n a0_0 a0_1 a0_2 a1 a2 a3 r25 r48 r68 r76 fu l12_2 i19_2 = some r
def lStays_l1_E (a0_0 : List UInt32) (a0_1 : List UInt32) (a0_2 : List UInt32) (a1 : List UInt8) (a2 : List UInt8) (a3 : List UInt8) (r25 : Bool) (r48 : List UInt8 × Nat) (r68 : List UInt8 × Nat × Option Int) (r76 : List UInt8 × Nat × Option Int) (l13_2 : List UInt8) (i18_2 : Int) : S := ⟨[(1, kH 0), (2, kH 1), (3, kH 2), (4, kP 3 0), (9, kB r25), (11, kP 7 0), (12, kH 11), (13, kH 12), (14, kE 34 r68.2.2), (16, kE 34 r76.2.2), (17, kT (r68.1 ++ r76.1)), (18, kI i18_2)], [], [⟨(.ro false), 5, 1, r48.2, .b ((a1.drop 0).take r48.2)⟩, ob 5 a2, ob 5 a3, ⟨.blk, 25, 1, 3, .c [.wh 4, .wh 5, .wh 6]⟩, ow 55 a0_0, ow 55 a0_1, ow 55 a0_2, ⟨.blk, 25, 1, 3, .c [.wh 8, .wh 9, .wh 10]⟩, nw 55 ([] ++ a0_0), nw 55 ([] ++ a0_1), nw 55 ([] ++ a0_2), nb 5 ([] ++ a2), ⟨.row, 5, 1, r68.2.1, .b l13_2⟩]⟩
abbrev lStays_l1_P (n : Nat) (a0_0 : List UInt32) (a0_1 : List UInt32) (a0_2 : List UInt32) (a1 : List UInt8) (a2 : List UInt8) (a3 : List UInt8) (r25 : Bool) (r48 : List UInt8 × Nat) (r68 : List UInt8 × Nat × Option Int) (r76 : List UInt8 × Nat × Option Int) (r : Bool) (fu : Nat) : S → Prop := fun s => ∃ (l13_2 : List UInt8), ∃ (i18_2 : Int), s = lStays_l1_E a0_0 a0_1 a0_2 a1 a2 a3 r25 r48 r68 r76 l13_2 i18_2 ∧ lStays_l1 n a0_0 a0_1 a0_2 a1 a2 a3 r25 r48 r68 r76 fu l13_2 i18_2 = some r
def lStays_R (r : Bool) : S := ⟨[(8, kB r)], [], []⟩
def lStays_ct (n : Nat) (r : Bool) : Ct := ctc (rSt (lC (cW 55) (lC (cW 55) (lC (cW 55) lN)))).rd fun _ y0 => ctc (rB 5).rd fun _ l1 => ctc (rB 5).rd fun _ l2 => ctc (rB 5).rd fun _ l3 => ct0 fun H => ([lStays n y0.1 y0.2.1 y0.2.2.1 l1 l2 l3 = some r], shA H.length (kB r), shH H.length [])
theorem lStays_ok (n : Nat) (r : Bool) : FnOk Tryd.prog GK 6 (lStays_ct n r) := by
 refine fnok Tryd.func6 ?_
 refine HO_c (rSt (lC (cW 55) (lC (cW 55) (lC (cW 55) lN)))) fun p0 _ => ?_
 obtain ⟨l0_0, l0_1, l0_2, _⟩ := p0
 refine HO_c (rB 5) fun l1 _ => HO_c (rB 5) fun l2 _ => HO_c (rB 5) fun l3 _ => HO_0 tabO_dvstays (lStays_R r) [.tmp 8] [] 180 Tryd.func6 fun w hG h => ?_
 have hI : ∀ w', Kp (noB (fun _ => undef)) w w' → GK w' := fun _ hk => GK.keep hk.below hG
 have h : lStays n l0_0 l0_1 l0_2 l1 l2 l3 = some r := h
 unfold lStays at h
 have hT := tabO_dvstays
 refine Vrs hT [3, 4, 5, 6, 0, 1, 2] ⟨[(1, kH 0), (2, kH 1), (3, kH 2), (4, kP 3 0)], [], [ob 5 l1, ob 5 l2, ob 5 l3, ⟨.blk, 25, 1, 3, .c [.wh 4, .wh 5, .wh 6]⟩, ow 55 l0_0, ow 55 l0_1, ow 55 l0_2]⟩ ?_
 obtain ⟨r25, g1, h⟩ := bind_some' h
 refine Vgs hT (fT 0 (kup_ok n r25) fN) [] [] [0, 1, 2, 3, 4, 5, 6] ⟨[(1, kH 0), (2, kH 1), (3, kH 2), (4, kP 3 0), (9, kB r25)], [], [ob 5 l1, ob 5 l2, ob 5 l3, ⟨.blk, 25, 1, 3, .c [.wh 4, .wh 5, .wh 6]⟩, ow 55 l0_0, ow 55 l0_1, ow 55 l0_2]⟩ (aP g1 aN) ?_
 obtain ⟨r27, g2, h⟩ := bind_some' h
 refine Vgs hT (fT 1 (klight_ok n r27) fN) [] [] [0, 1, 2, 3, 4, 5, 6] ⟨[(1, kH 0), (2, kH 1), (3, kH 2), (4, kP 3 0), (9, kB r25), (10, kB r27)], [], [ob 5 l1, ob 5 l2, ob 5 l3, ⟨.blk, 25, 1, 3, .c [.wh 4, .wh 5, .wh 6]⟩, ow 55 l0_0, ow 55 l0_1, ow 55 l0_2]⟩ (aP g2 aN) ?_
 refine W_seq ?_
 refine W_seq ?_
 rcases Bool.eq_false_or_eq_true (!r27) with g3 | g3
 ·replace h := bif_t h g3
  refine Vg hT fN [(2, true)] [] [0, 1, 2, 3, 4, 5, 6] ⟨[(1, kH 0), (2, kH 1), (3, kH 2), (4, kP 3 0), (9, kB r25), (45, kB true)], [], [ob 5 l1, ob 5 l2, ob 5 l3, ⟨.blk, 25, 1, 3, .c [.wh 4, .wh 5, .wh 6]⟩, ow 55 l0_0, ow 55 l0_1, ow 55 l0_2]⟩ (aP g3 aN) ?_
  refine Vi (true) (fun _ => ?_) (fun hb => by cases hb)
  refine Vrs hT [] ⟨[(8, kB r25)], [], []⟩ ?_
  refine Vc [] [] (lStays_R r25) (W_ret ?_)
  exact ⟨.inl rfl, by cases h; rfl⟩
 ·replace h := bif_f h g3
  rcases Bool.eq_false_or_eq_true (decide ((2 : Int) < ((l0_1.length : Nat) : Int))) with g4 | g4
  ·replace h := bif_t h g4
   refine Vg hT fN [(2, false), (8, true)] [] [0, 1, 2, 3, 4, 5, 6] ⟨[(1, kH 0), (2, kH 1), (3, kH 2), (4, kP 3 0), (9, kB r25), (45, kB true)], [], [ob 5 l1, ob 5 l2, ob 5 l3, ⟨.blk, 25, 1, 3, .c [.wh 4, .wh 5, .wh 6]⟩, ow 55 l0_0, ow 55 l0_1, ow 55 l0_2]⟩ (aP g3 (aP g4 aN)) ?_
   refine Vi (true) (fun _ => ?_) (fun hb => by cases hb)
   refine Vrs hT [] ⟨[(8, kB r25)], [], []⟩ ?_
   refine Vc [] [] (lStays_R r25) (W_ret ?_)
   exact ⟨.inl rfl, by cases h; rfl⟩
  ·replace h := bif_f h g4
   rcases Bool.eq_false_or_eq_true (decide ((300 : Int) < ((l2.length : Nat) : Int))) with g5 | g5
   ·replace h := bif_t h g5
    refine Vg hT fN [(2, false), (8, false), (13, true)] [] [0, 1, 2, 3, 4, 5, 6] ⟨[(1, kH 0), (2, kH 1), (3, kH 2), (4, kP 3 0), (9, kB r25), (45, kB true)], [], [ob 5 l1, ob 5 l2, ob 5 l3, ⟨.blk, 25, 1, 3, .c [.wh 4, .wh 5, .wh 6]⟩, ow 55 l0_0, ow 55 l0_1, ow 55 l0_2]⟩ (aP g3 (aP g4 (aP g5 aN))) ?_
    refine Vi (true) (fun _ => ?_) (fun hb => by cases hb)
    refine Vrs hT [] ⟨[(8, kB r25)], [], []⟩ ?_
    refine Vc [] [] (lStays_R r25) (W_ret ?_)
    exact ⟨.inl rfl, by cases h; rfl⟩
   ·replace h := bif_f h g5
    refine Vg hT fN [(2, false), (8, false), (13, false)] [] [0, 1, 2, 3, 4, 5, 6] ⟨[(1, kH 0), (2, kH 1), (3, kH 2), (4, kP 3 0), (9, kB r25), (45, kB (decide ((300 : Int) < ((l3.length : Nat) : Int))))], [], [ob 5 l1, ob 5 l2, ob 5 l3, ⟨.blk, 25, 1, 3, .c [.wh 4, .wh 5, .wh 6]⟩, ow 55 l0_0, ow 55 l0_1, ow 55 l0_2]⟩ (aP g3 (aP g4 (aP g5 aN))) ?_
    refine Vi ((decide ((300 : Int) < ((l3.length : Nat) : Int)))) (fun g46 => ?_) (fun g46 => ?_)
    ·replace h := bif_t h g46
     refine Vrs hT [] ⟨[(8, kB r25)], [], []⟩ ?_
     refine Vc [] [] (lStays_R r25) (W_ret ?_)
     exact ⟨.inl rfl, by cases h; rfl⟩
    ·replace h := bif_f h g46
     refine W_skip ?_
     obtain ⟨r48, g6, h⟩ := bind_some' h
     refine Vgs hT (fT 1 (kcut_ok n r48) fN) [] [] [0, 1, 2, 3, 4, 5, 6] ⟨[(1, .c (.sl 0 0 r48.2)), (2, kH 1), (3, kH 2), (4, kP 3 0), (9, kB r25)], [], [ob 5 l1, ob 5 l2, ob 5 l3, ⟨.blk, 25, 1, 3, .c [.wh 4, .wh 5, .wh 6]⟩, ow 55 l0_0, ow 55 l0_1, ow 55 l0_2]⟩ (aP g6 aN) ?_
     refine W_seq ?_
     obtain ⟨g7, g8, g9, h⟩ := gd3 h
     refine W_regG hT fN (by kernel_rfl) [] [1, 2, 5, 6, 9, 10, 12] [[1, 2, 5, 6, 9, 10], [0, 1, 2, 5, 6, 9, 10], [1, 2, 4, 5, 6, 9, 10], [1, 2, 5, 6, 8, 9, 10], [1, 2, 5, 6, 9, 10, 13], [0, 1, 2, 3, 5, 6, 9, 10], [0, 1, 2, 4, 5, 6, 9, 10], [0, 1, 2, 5, 6, 8, 9, 10], [0, 1, 2, 5, 6, 9, 10, 13], [1, 2, 4, 5, 6, 8, 9, 10], [1, 2, 4, 5, 6, 9, 10, 13], [1, 2, 5, 6, 8, 9, 10, 13], [0, 1, 2, 3, 4, 5, 6, 9, 10], [0, 1, 2, 3, 5, 6, 8, 9, 10], [0, 1, 2, 3, 5, 6, 9, 10, 13], [0, 1, 2, 4, 5, 6, 8, 9, 10], [0, 1, 2, 4, 5, 6, 9, 10, 13], [0, 1, 2, 5, 6, 8, 9, 10, 13], [1, 2, 4, 5, 6, 8, 9, 10, 13], [0, 1, 2, 3, 4, 5, 6, 7, 9, 10], [0, 1, 2, 3, 4, 5, 6, 8, 9, 10], [0, 1, 2, 3, 4, 5, 6, 9, 10, 13], [0, 1, 2, 3, 5, 6, 8, 9, 10, 13], [0, 1, 2, 4, 5, 6, 8, 9, 10, 13], [0, 1, 2, 3, 4, 5, 6, 7, 8, 9, 10], [0, 1, 2, 3, 4, 5, 6, 7, 9, 10, 13], [0, 1, 2, 3, 4, 5, 6, 8, 9, 10, 13], [0, 1, 2, 3, 4, 5, 6, 7, 8, 9, 10, 11, 12], [0, 1, 2, 3, 4, 5, 6, 7, 8, 9, 10, 13], [0, 1, 2, 3, 4, 5, 6, 7, 8, 9, 10, 11, 12, 13], [0, 1, 2, 3, 4, 5, 6, 7, 8, 9, 10, 11, 12, 13, 14]] [⟨[(1, .c (.sl 0 0 r48.2)), (2, kH 1), (3, kH 2), (4, kP 3 0), (9, kB r25), (50, kP 3 0), (51, kH 4), (54, kP 3 1), (55, kH 5), (58, kP 3 2), (59, kH 6)], [], [ob 5 l1, ob 5 l2, ob 5 l3, ⟨.blk, 25, 1, 3, .c [.wh 4, .wh 5, .wh 6]⟩, ow 55 l0_0, ow 55 l0_1, ow 55 l0_2]⟩, ⟨[(1, .c (.sl 0 0 r48.2)), (2, kH 1), (3, kH 2), (4, kP 3 0), (9, kB r25), (49, kH 7), (50, kP 3 0), (51, kH 4), (54, kP 3 1), (55, kH 5), (58, kP 3 2), (59, kH 6)], [], [ob 5 l1, ob 5 l2, ob 5 l3, ⟨.blk, 25, 1, 3, .c [.wh 4, .wh 5, .wh 6]⟩, ow 55 l0_0, ow 55 l0_1, ow 55 l0_2, ⟨.row, 55, 1, 0, .w []⟩]⟩, ⟨[(1, .c (.sl 0 0 r48.2)), (2, kH 1), (3, kH 2), (4, kP 3 0), (9, kB r25), (50, kP 3 0), (51, kH 4), (53, kH 7), (54, kP 3 1), (55, kH 5), (58, kP 3 2), (59, kH 6)], [], [ob 5 l1, ob 5 l2, ob 5 l3, ⟨.blk, 25, 1, 3, .c [.wh 4, .wh 5, .wh 6]⟩, ow 55 l0_0, ow 55 l0_1, ow 55 l0_2, ⟨.row, 55, 1, 0, .w []⟩]⟩, ⟨[(1, .c (.sl 0 0 r48.2)), (2, kH 1), (3, kH 2), (4, kP 3 0), (9, kB r25), (50, kP 3 0), (51, kH 4), (54, kP 3 1), (55, kH 5), (57, kH 7), (58, kP 3 2), (59, kH 6)], [], [ob 5 l1, ob 5 l2, ob 5 l3, ⟨.blk, 25, 1, 3, .c [.wh 4, .wh 5, .wh 6]⟩, ow 55 l0_0, ow 55 l0_1, ow 55 l0_2, ⟨.row, 55, 1, 0, .w []⟩]⟩, ⟨[(1, .c (.sl 0 0 r48.2)), (2, kH 1), (3, kH 2), (4, kP 3 0), (9, kB r25), (11, kP 7 0), (50, kP 3 0), (51, kH 4), (54, kP 3 1), (55, kH 5), (58, kP 3 2), (59, kH 6)], [], [ob 5 l1, ob 5 l2, ob 5 l3, ⟨.blk, 25, 1, 3, .c [.wh 4, .wh 5, .wh 6]⟩, ow 55 l0_0, ow 55 l0_1, ow 55 l0_2, ⟨.blk, 25, 1, 3, .c [.nils, .nils, .nils]⟩]⟩, ⟨[(1, .c (.sl 0 0 r48.2)), (2, kH 1), (3, kH 2), (4, kP 3 0), (9, kB r25), (52, kH 7), (54, kP 3 1), (55, kH 5), (58, kP 3 2), (59, kH 6)], [], [ob 5 l1, ob 5 l2, ob 5 l3, ⟨.blk, 25, 1, 3, .c [.wh 4, .wh 5, .wh 6]⟩, ow 55 l0_0, ow 55 l0_1, ow 55 l0_2, nw 55 ([] ++ l0_0)]⟩, ⟨[(1, .c (.sl 0 0 r48.2)), (2, kH 1), (3, kH 2), (4, kP 3 0), (9, kB r25), (49, kH 7), (50, kP 3 0), (51, kH 4), (53, kH 8), (54, kP 3 1), (55, kH 5), (58, kP 3 2), (59, kH 6)], [], [ob 5 l1, ob 5 l2, ob 5 l3, ⟨.blk, 25, 1, 3, .c [.wh 4, .wh 5, .wh 6]⟩, ow 55 l0_0, ow 55 l0_1, ow 55 l0_2, ⟨.row, 55, 1, 0, .w []⟩, ⟨.row, 55, 1, 0, .w []⟩]⟩, ⟨[(1, .c (.sl 0 0 r48.2)), (2, kH 1), (3, kH 2), (4, kP 3 0), (9, kB r25), (49, kH 7), (50, kP 3 0), (51, kH 4), (54, kP 3 1), (55, kH 5), (57, kH 8), (58, kP 3 2), (59, kH 6)], [], [ob 5 l1, ob 5 l2, ob 5 l3, ⟨.blk, 25, 1, 3, .c [.wh 4, .wh 5, .wh 6]⟩, ow 55 l0_0, ow 55 l0_1, ow 55 l0_2, ⟨.row, 55, 1, 0, .w []⟩, ⟨.row, 55, 1, 0, .w []⟩]⟩, ⟨[(1, .c (.sl 0 0 r48.2)), (2, kH 1), (3, kH 2), (4, kP 3 0), (9, kB r25), (11, kP 7 0), (49, kH 8), (50, kP 3 0), (51, kH 4), (54, kP 3 1), (55, kH 5), (58, kP 3 2), (59, kH 6)], [], [ob 5 l1, ob 5 l2, ob 5 l3, ⟨.blk, 25, 1, 3, .c [.wh 4, .wh 5, .wh 6]⟩, ow 55 l0_0, ow 55 l0_1, ow 55 l0_2, ⟨.blk, 25, 1, 3, .c [.nils, .nils, .nils]⟩, ⟨.row, 55, 1, 0, .w []⟩]⟩, ⟨[(1, .c (.sl 0 0 r48.2)), (2, kH 1), (3, kH 2), (4, kP 3 0), (9, kB r25), (50, kP 3 0), (51, kH 4), (53, kH 7), (54, kP 3 1), (55, kH 5), (57, kH 8), (58, kP 3 2), (59, kH 6)], [], [ob 5 l1, ob 5 l2, ob 5 l3, ⟨.blk, 25, 1, 3, .c [.wh 4, .wh 5, .wh 6]⟩, ow 55 l0_0, ow 55 l0_1, ow 55 l0_2, ⟨.row, 55, 1, 0, .w []⟩, ⟨.row, 55, 1, 0, .w []⟩]⟩, ⟨[(1, .c (.sl 0 0 r48.2)), (2, kH 1), (3, kH 2), (4, kP 3 0), (9, kB r25), (11, kP 7 0), (50, kP 3 0), (51, kH 4), (53, kH 8), (54, kP 3 1), (55, kH 5), (58, kP 3 2), (59, kH 6)], [], [ob 5 l1, ob 5 l2, ob 5 l3, ⟨.blk, 25, 1, 3, .c [.wh 4, .wh 5, .wh 6]⟩, ow 55 l0_0, ow 55 l0_1, ow 55 l0_2, ⟨.blk, 25, 1, 3, .c [.nils, .nils, .nils]⟩, ⟨.row, 55, 1, 0, .w []⟩]⟩, ⟨[(1, .c (.sl 0 0 r48.2)), (2, kH 1), (3, kH 2), (4, kP 3 0), (9, kB r25), (11, kP 7 0), (50, kP 3 0), (51, kH 4), (54, kP 3 1), (55, kH 5), (57, kH 8), (58, kP 3 2), (59, kH 6)], [], [ob 5 l1, ob 5 l2, ob 5 l3, ⟨.blk, 25, 1, 3, .c [.wh 4, .wh 5, .wh 6]⟩, ow 55 l0_0, ow 55 l0_1, ow 55 l0_2, ⟨.blk, 25, 1, 3, .c [.nils, .nils, .nils]⟩, ⟨.row, 55, 1, 0, .w []⟩]⟩, ⟨[(1, .c (.sl 0 0 r48.2)), (2, kH 1), (3, kH 2), (4, kP 3 0), (9, kB r25), (52, kH 7), (53, kH 8), (54, kP 3 1), (55, kH 5), (58, kP 3 2), (59, kH 6)], [], [ob 5 l1, ob 5 l2, ob 5 l3, ⟨.blk, 25, 1, 3, .c [.wh 4, .wh 5, .wh 6]⟩, ow 55 l0_0, ow 55 l0_1, ow 55 l0_2, nw 55 ([] ++ l0_0), ⟨.row, 55, 1, 0, .w []⟩]⟩, ⟨[(1, .c (.sl 0 0 r48.2)), (2, kH 1), (3, kH 2), (4, kP 3 0), (9, kB r25), (52, kH 7), (54, kP 3 1), (55, kH 5), (57, kH 8), (58, kP 3 2), (59, kH 6)], [], [ob 5 l1, ob 5 l2, ob 5 l3, ⟨.blk, 25, 1, 3, .c [.wh 4, .wh 5, .wh 6]⟩, ow 55 l0_0, ow 55 l0_1, ow 55 l0_2, nw 55 ([] ++ l0_0), ⟨.row, 55, 1, 0, .w []⟩]⟩, ⟨[(1, .c (.sl 0 0 r48.2)), (2, kH 1), (3, kH 2), (4, kP 3 0), (9, kB r25), (11, kP 7 0), (52, kH 8), (54, kP 3 1), (55, kH 5), (58, kP 3 2), (59, kH 6)], [], [ob 5 l1, ob 5 l2, ob 5 l3, ⟨.blk, 25, 1, 3, .c [.wh 4, .wh 5, .wh 6]⟩, ow 55 l0_0, ow 55 l0_1, ow 55 l0_2, ⟨.blk, 25, 1, 3, .c [.nils, .nils, .nils]⟩, nw 55 ([] ++ l0_0)]⟩, ⟨[(1, .c (.sl 0 0 r48.2)), (2, kH 1), (3, kH 2), (4, kP 3 0), (9, kB r25), (49, kH 7), (50, kP 3 0), (51, kH 4), (53, kH 8), (54, kP 3 1), (55, kH 5), (57, kH 9), (58, kP 3 2), (59, kH 6)], [], [ob 5 l1, ob 5 l2, ob 5 l3, ⟨.blk, 25, 1, 3, .c [.wh 4, .wh 5, .wh 6]⟩, ow 55 l0_0, ow 55 l0_1, ow 55 l0_2, ⟨.row, 55, 1, 0, .w []⟩, ⟨.row, 55, 1, 0, .w []⟩, ⟨.row, 55, 1, 0, .w []⟩]⟩, ⟨[(1, .c (.sl 0 0 r48.2)), (2, kH 1), (3, kH 2), (4, kP 3 0), (9, kB r25), (11, kP 7 0), (49, kH 8), (50, kP 3 0), (51, kH 4), (53, kH 9), (54, kP 3 1), (55, kH 5), (58, kP 3 2), (59, kH 6)], [], [ob 5 l1, ob 5 l2, ob 5 l3, ⟨.blk, 25, 1, 3, .c [.wh 4, .wh 5, .wh 6]⟩, ow 55 l0_0, ow 55 l0_1, ow 55 l0_2, ⟨.blk, 25, 1, 3, .c [.nils, .nils, .nils]⟩, ⟨.row, 55, 1, 0, .w []⟩, ⟨.row, 55, 1, 0, .w []⟩]⟩, ⟨[(1, .c (.sl 0 0 r48.2)), (2, kH 1), (3, kH 2), (4, kP 3 0), (9, kB r25), (11, kP 7 0), (49, kH 8), (50, kP 3 0), (51, kH 4), (54, kP 3 1), (55, kH 5), (57, kH 9), (58, kP 3 2), (59, kH 6)], [], [ob 5 l1, ob 5 l2, ob 5 l3, ⟨.blk, 25, 1, 3, .c [.wh 4, .wh 5, .wh 6]⟩, ow 55 l0_0, ow 55 l0_1, ow 55 l0_2, ⟨.blk, 25, 1, 3, .c [.nils, .nils, .nils]⟩, ⟨.row, 55, 1, 0, .w []⟩, ⟨.row, 55, 1, 0, .w []⟩]⟩, ⟨[(1, .c (.sl 0 0 r48.2)), (2, kH 1), (3, kH 2), (4, kP 3 0), (9, kB r25), (11, kP 7 0), (50, kP 3 0), (51, kH 4), (53, kH 8), (54, kP 3 1), (55, kH 5), (57, kH 9), (58, kP 3 2), (59, kH 6)], [], [ob 5 l1, ob 5 l2, ob 5 l3, ⟨.blk, 25, 1, 3, .c [.wh 4, .wh 5, .wh 6]⟩, ow 55 l0_0, ow 55 l0_1, ow 55 l0_2, ⟨.blk, 25, 1, 3, .c [.nils, .nils, .nils]⟩, ⟨.row, 55, 1, 0, .w []⟩, ⟨.row, 55, 1, 0, .w []⟩]⟩, ⟨[(1, .c (.sl 0 0 r48.2)), (2, kH 1), (3, kH 2), (4, kP 3 0), (9, kB r25), (52, kH 7), (56, kH 8), (58, kP 3 2), (59, kH 6)], [], [ob 5 l1, ob 5 l2, ob 5 l3, ⟨.blk, 25, 1, 3, .c [.wh 4, .wh 5, .wh 6]⟩, ow 55 l0_0, ow 55 l0_1, ow 55 l0_2, nw 55 ([] ++ l0_0), nw 55 ([] ++ l0_1)]⟩, ⟨[(1, .c (.sl 0 0 r48.2)), (2, kH 1), (3, kH 2), (4, kP 3 0), (9, kB r25), (52, kH 7), (53, kH 8), (54, kP 3 1), (55, kH 5), (57, kH 9), (58, kP 3 2), (59, kH 6)], [], [ob 5 l1, ob 5 l2, ob 5 l3, ⟨.blk, 25, 1, 3, .c [.wh 4, .wh 5, .wh 6]⟩, ow 55 l0_0, ow 55 l0_1, ow 55 l0_2, nw 55 ([] ++ l0_0), ⟨.row, 55, 1, 0, .w []⟩, ⟨.row, 55, 1, 0, .w []⟩]⟩, ⟨[(1, .c (.sl 0 0 r48.2)), (2, kH 1), (3, kH 2), (4, kP 3 0), (9, kB r25), (11, kP 7 0), (52, kH 8), (53, kH 9), (54, kP 3 1), (55, kH 5), (58, kP 3 2), (59, kH 6)], [], [ob 5 l1, ob 5 l2, ob 5 l3, ⟨.blk, 25, 1, 3, .c [.wh 4, .wh 5, .wh 6]⟩, ow 55 l0_0, ow 55 l0_1, ow 55 l0_2, ⟨.blk, 25, 1, 3, .c [.nils, .nils, .nils]⟩, nw 55 ([] ++ l0_0), ⟨.row, 55, 1, 0, .w []⟩]⟩, ⟨[(1, .c (.sl 0 0 r48.2)), (2, kH 1), (3, kH 2), (4, kP 3 0), (9, kB r25), (11, kP 7 0), (52, kH 8), (54, kP 3 1), (55, kH 5), (57, kH 9), (58, kP 3 2), (59, kH 6)], [], [ob 5 l1, ob 5 l2, ob 5 l3, ⟨.blk, 25, 1, 3, .c [.wh 4, .wh 5, .wh 6]⟩, ow 55 l0_0, ow 55 l0_1, ow 55 l0_2, ⟨.blk, 25, 1, 3, .c [.nils, .nils, .nils]⟩, nw 55 ([] ++ l0_0), ⟨.row, 55, 1, 0, .w []⟩]⟩, ⟨[(1, .c (.sl 0 0 r48.2)), (2, kH 1), (3, kH 2), (4, kP 3 0), (9, kB r25), (11, kP 7 0), (49, kH 8), (50, kP 3 0), (51, kH 4), (53, kH 9), (54, kP 3 1), (55, kH 5), (57, kH 10), (58, kP 3 2), (59, kH 6)], [], [ob 5 l1, ob 5 l2, ob 5 l3, ⟨.blk, 25, 1, 3, .c [.wh 4, .wh 5, .wh 6]⟩, ow 55 l0_0, ow 55 l0_1, ow 55 l0_2, ⟨.blk, 25, 1, 3, .c [.nils, .nils, .nils]⟩, ⟨.row, 55, 1, 0, .w []⟩, ⟨.row, 55, 1, 0, .w []⟩, ⟨.row, 55, 1, 0, .w []⟩]⟩, ⟨[(1, .c (.sl 0 0 r48.2)), (2, kH 1), (3, kH 2), (4, kP 3 0), (9, kB r25), (52, kH 7), (56, kH 8), (57, kH 9), (58, kP 3 2), (59, kH 6)], [], [ob 5 l1, ob 5 l2, ob 5 l3, ⟨.blk, 25, 1, 3, .c [.wh 4, .wh 5, .wh 6]⟩, ow 55 l0_0, ow 55 l0_1, ow 55 l0_2, nw 55 ([] ++ l0_0), nw 55 ([] ++ l0_1), ⟨.row, 55, 1, 0, .w []⟩]⟩, ⟨[(1, .c (.sl 0 0 r48.2)), (2, kH 1), (3, kH 2), (4, kP 3 0), (9, kB r25), (11, kP 7 0), (52, kH 8), (56, kH 9), (58, kP 3 2), (59, kH 6)], [], [ob 5 l1, ob 5 l2, ob 5 l3, ⟨.blk, 25, 1, 3, .c [.wh 4, .wh 5, .wh 6]⟩, ow 55 l0_0, ow 55 l0_1, ow 55 l0_2, ⟨.blk, 25, 1, 3, .c [.nils, .nils, .nils]⟩, nw 55 ([] ++ l0_0), nw 55 ([] ++ l0_1)]⟩, ⟨[(1, .c (.sl 0 0 r48.2)), (2, kH 1), (3, kH 2), (4, kP 3 0), (9, kB r25), (11, kP 7 0), (52, kH 8), (53, kH 9), (54, kP 3 1), (55, kH 5), (57, kH 10), (58, kP 3 2), (59, kH 6)], [], [ob 5 l1, ob 5 l2, ob 5 l3, ⟨.blk, 25, 1, 3, .c [.wh 4, .wh 5, .wh 6]⟩, ow 55 l0_0, ow 55 l0_1, ow 55 l0_2, ⟨.blk, 25, 1, 3, .c [.nils, .nils, .nils]⟩, nw 55 ([] ++ l0_0), ⟨.row, 55, 1, 0, .w []⟩, ⟨.row, 55, 1, 0, .w []⟩]⟩, ⟨[(1, .c (.sl 0 0 r48.2)), (2, kH 1), (3, kH 2), (4, kP 3 0), (9, kB r25), (52, kH 7), (56, kH 8), (60, kH 9), (61, .g 3 (.c [.wh 7, .wh 8, .wh 9]))], [], [ob 5 l1, ob 5 l2, ob 5 l3, ⟨.blk, 25, 1, 3, .c [.wh 4, .wh 5, .wh 6]⟩, ow 55 l0_0, ow 55 l0_1, ow 55 l0_2, nw 55 ([] ++ l0_0), nw 55 ([] ++ l0_1), nw 55 ([] ++ l0_2)]⟩, ⟨[(1, .c (.sl 0 0 r48.2)), (2, kH 1), (3, kH 2), (4, kP 3 0), (9, kB r25), (11, kP 7 0), (52, kH 8), (56, kH 9), (57, kH 10), (58, kP 3 2), (59, kH 6)], [], [ob 5 l1, ob 5 l2, ob 5 l3, ⟨.blk, 25, 1, 3, .c [.wh 4, .wh 5, .wh 6]⟩, ow 55 l0_0, ow 55 l0_1, ow 55 l0_2, ⟨.blk, 25, 1, 3, .c [.nils, .nils, .nils]⟩, nw 55 ([] ++ l0_0), nw 55 ([] ++ l0_1), ⟨.row, 55, 1, 0, .w []⟩]⟩, ⟨[(1, .c (.sl 0 0 r48.2)), (2, kH 1), (3, kH 2), (4, kP 3 0), (9, kB r25), (11, kP 7 0), (52, kH 8), (56, kH 9), (60, kH 10), (61, .g 3 (.c [.wh 8, .wh 9, .wh 10]))], [], [ob 5 l1, ob 5 l2, ob 5 l3, ⟨.blk, 25, 1, 3, .c [.wh 4, .wh 5, .wh 6]⟩, ow 55 l0_0, ow 55 l0_1, ow 55 l0_2, ⟨.blk, 25, 1, 3, .c [.nils, .nils, .nils]⟩, nw 55 ([] ++ l0_0), nw 55 ([] ++ l0_1), nw 55 ([] ++ l0_2)]⟩, ⟨[(1, .c (.sl 0 0 r48.2)), (2, kH 1), (3, kH 2), (4, kP 3 0), (9, kB r25), (11, kP 7 0)], [], [ob 5 l1, ob 5 l2, ob 5 l3, ⟨.blk, 25, 1, 3, .c [.wh 4, .wh 5, .wh 6]⟩, ow 55 l0_0, ow 55 l0_1, ow 55 l0_2, ⟨.blk, 25, 1, 3, .c [.wh 8, .wh 9, .wh 10]⟩, nw 55 ([] ++ l0_0), nw 55 ([] ++ l0_1), nw 55 ([] ++ l0_2)]⟩] [1, 2, 5, 6, 9, 10] [⟨0, 0, 1, [], [], [1, 2, 3, 4, 9, 49, 50, 51, 54, 55, 58, 59], [0, 1, 2, 3, 4, 5, 6, 7]⟩, ⟨0, 4, 2, [], [], [1, 2, 3, 4, 9, 50, 51, 53, 54, 55, 58, 59], [0, 1, 2, 3, 4, 5, 6, 7]⟩, ⟨0, 8, 3, [], [], [1, 2, 3, 4, 9, 50, 51, 54, 55, 57, 58, 59], [0, 1, 2, 3, 4, 5, 6, 7]⟩, ⟨0, 13, 4, [], [], [1, 2, 3, 4, 9, 11, 50, 51, 54, 55, 58, 59], [0, 1, 2, 3, 4, 5, 6, 7]⟩, ⟨1, 3, 5, [], [], [1, 2, 3, 4, 9, 52, 54, 55, 58, 59], [0, 1, 2, 3, 4, 5, 6, 8]⟩, ⟨1, 4, 6, [], [], [1, 2, 3, 4, 9, 49, 50, 51, 53, 54, 55, 58, 59], [0, 1, 2, 3, 4, 5, 6, 7, 8]⟩, ⟨1, 8, 7, [], [], [1, 2, 3, 4, 9, 49, 50, 51, 54, 55, 57, 58, 59], [0, 1, 2, 3, 4, 5, 6, 7, 8]⟩, ⟨1, 13, 8, [], [], [1, 2, 3, 4, 9, 11, 49, 50, 51, 54, 55, 58, 59], [0, 1, 2, 3, 4, 5, 6, 8, 7]⟩, ⟨2, 0, 6, [], [], [1, 2, 3, 4, 9, 49, 50, 51, 53, 54, 55, 58, 59], [0, 1, 2, 3, 4, 5, 6, 8, 7]⟩, ⟨2, 8, 9, [], [], [1, 2, 3, 4, 9, 50, 51, 53, 54, 55, 57, 58, 59], [0, 1, 2, 3, 4, 5, 6, 7, 8]⟩, ⟨2, 13, 10, [], [], [1, 2, 3, 4, 9, 11, 50, 51, 53, 54, 55, 58, 59], [0, 1, 2, 3, 4, 5, 6, 8, 7]⟩, ⟨3, 0, 7, [], [], [1, 2, 3, 4, 9, 49, 50, 51, 54, 55, 57, 58, 59], [0, 1, 2, 3, 4, 5, 6, 8, 7]⟩, ⟨3, 4, 9, [], [], [1, 2, 3, 4, 9, 50, 51, 53, 54, 55, 57, 58, 59], [0, 1, 2, 3, 4, 5, 6, 8, 7]⟩, ⟨3, 13, 11, [], [], [1, 2, 3, 4, 9, 11, 50, 51, 54, 55, 57, 58, 59], [0, 1, 2, 3, 4, 5, 6, 8, 7]⟩, ⟨4, 0, 8, [], [], [1, 2, 3, 4, 9, 11, 49, 50, 51, 54, 55, 58, 59], [0, 1, 2, 3, 4, 5, 6, 7, 8]⟩, ⟨4, 4, 10, [], [], [1, 2, 3, 4, 9, 11, 50, 51, 53, 54, 55, 58, 59], [0, 1, 2, 3, 4, 5, 6, 7, 8]⟩, ⟨4, 8, 11, [], [], [1, 2, 3, 4, 9, 11, 50, 51, 54, 55, 57, 58, 59], [0, 1, 2, 3, 4, 5, 6, 7, 8]⟩, ⟨5, 4, 12, [], [], [1, 2, 3, 4, 9, 52, 53, 54, 55, 58, 59], [0, 1, 2, 3, 4, 5, 6, 7, 8]⟩, ⟨5, 8, 13, [], [], [1, 2, 3, 4, 9, 52, 54, 55, 57, 58, 59], [0, 1, 2, 3, 4, 5, 6, 7, 8]⟩, ⟨5, 13, 14, [], [], [1, 2, 3, 4, 9, 11, 52, 54, 55, 58, 59], [0, 1, 2, 3, 4, 5, 6, 8, 7]⟩, ⟨6, 3, 12, [], [], [1, 2, 3, 4, 9, 52, 53, 54, 55, 58, 59], [0, 1, 2, 3, 4, 5, 6, 9, 8]⟩, ⟨6, 8, 15, [], [], [1, 2, 3, 4, 9, 49, 50, 51, 53, 54, 55, 57, 58, 59], [0, 1, 2, 3, 4, 5, 6, 7, 8, 9]⟩, ⟨6, 13, 16, [], [], [1, 2, 3, 4, 9, 11, 49, 50, 51, 53, 54, 55, 58, 59], [0, 1, 2, 3, 4, 5, 6, 9, 7, 8]⟩, ⟨7, 3, 13, [], [], [1, 2, 3, 4, 9, 52, 54, 55, 57, 58, 59], [0, 1, 2, 3, 4, 5, 6, 9, 8]⟩, ⟨7, 4, 15, [], [], [1, 2, 3, 4, 9, 49, 50, 51, 53, 54, 55, 57, 58, 59], [0, 1, 2, 3, 4, 5, 6, 7, 9, 8]⟩, ⟨7, 13, 17, [], [], [1, 2, 3, 4, 9, 11, 49, 50, 51, 54, 55, 57, 58, 59], [0, 1, 2, 3, 4, 5, 6, 9, 7, 8]⟩, ⟨8, 3, 14, [], [], [1, 2, 3, 4, 9, 11, 52, 54, 55, 58, 59], [0, 1, 2, 3, 4, 5, 6, 7, 9]⟩, ⟨8, 4, 16, [], [], [1, 2, 3, 4, 9, 11, 49, 50, 51, 53, 54, 55, 58, 59], [0, 1, 2, 3, 4, 5, 6, 7, 8, 9]⟩, ⟨8, 8, 17, [], [], [1, 2, 3, 4, 9, 11, 49, 50, 51, 54, 55, 57, 58, 59], [0, 1, 2, 3, 4, 5, 6, 7, 8, 9]⟩, ⟨9, 0, 15, [], [], [1, 2, 3, 4, 9, 49, 50, 51, 53, 54, 55, 57, 58, 59], [0, 1, 2, 3, 4, 5, 6, 9, 7, 8]⟩, ⟨9, 13, 18, [], [], [1, 2, 3, 4, 9, 11, 50, 51, 53, 54, 55, 57, 58, 59], [0, 1, 2, 3, 4, 5, 6, 9, 7, 8]⟩, ⟨10, 0, 16, [], [], [1, 2, 3, 4, 9, 11, 49, 50, 51, 53, 54, 55, 58, 59], [0, 1, 2, 3, 4, 5, 6, 7, 9, 8]⟩, ⟨10, 8, 18, [], [], [1, 2, 3, 4, 9, 11, 50, 51, 53, 54, 55, 57, 58, 59], [0, 1, 2, 3, 4, 5, 6, 7, 8, 9]⟩, ⟨11, 0, 17, [], [], [1, 2, 3, 4, 9, 11, 49, 50, 51, 54, 55, 57, 58, 59], [0, 1, 2, 3, 4, 5, 6, 7, 9, 8]⟩, ⟨11, 4, 18, [], [], [1, 2, 3, 4, 9, 11, 50, 51, 53, 54, 55, 57, 58, 59], [0, 1, 2, 3, 4, 5, 6, 7, 9, 8]⟩, ⟨12, 7, 19, [], [], [1, 2, 3, 4, 9, 52, 56, 58, 59], [0, 1, 2, 3, 4, 5, 6, 7, 9]⟩, ⟨12, 8, 20, [], [], [1, 2, 3, 4, 9, 52, 53, 54, 55, 57, 58, 59], [0, 1, 2, 3, 4, 5, 6, 7, 8, 9]⟩, ⟨12, 13, 21, [], [], [1, 2, 3, 4, 9, 11, 52, 53, 54, 55, 58, 59], [0, 1, 2, 3, 4, 5, 6, 9, 7, 8]⟩, ⟨13, 4, 20, [], [], [1, 2, 3, 4, 9, 52, 53, 54, 55, 57, 58, 59], [0, 1, 2, 3, 4, 5, 6, 7, 9, 8]⟩, ⟨13, 13, 22, [], [], [1, 2, 3, 4, 9, 11, 52, 54, 55, 57, 58, 59], [0, 1, 2, 3, 4, 5, 6, 9, 7, 8]⟩, ⟨14, 4, 21, [], [], [1, 2, 3, 4, 9, 11, 52, 53, 54, 55, 58, 59], [0, 1, 2, 3, 4, 5, 6, 7, 8, 9]⟩, ⟨14, 8, 22, [], [], [1, 2, 3, 4, 9, 11, 52, 54, 55, 57, 58, 59], [0, 1, 2, 3, 4, 5, 6, 7, 8, 9]⟩, ⟨15, 3, 20, [], [], [1, 2, 3, 4, 9, 52, 53, 54, 55, 57, 58, 59], [0, 1, 2, 3, 4, 5, 6, 10, 8, 9]⟩, ⟨15, 13, 23, [], [], [1, 2, 3, 4, 9, 11, 49, 50, 51, 53, 54, 55, 57, 58, 59], [0, 1, 2, 3, 4, 5, 6, 10, 7, 8, 9]⟩, ⟨16, 3, 21, [], [], [1, 2, 3, 4, 9, 11, 52, 53, 54, 55, 58, 59], [0, 1, 2, 3, 4, 5, 6, 7, 10, 9]⟩, ⟨16, 8, 23, [], [], [1, 2, 3, 4, 9, 11, 49, 50, 51, 53, 54, 55, 57, 58, 59], [0, 1, 2, 3, 4, 5, 6, 7, 8, 9, 10]⟩, ⟨17, 3, 22, [], [], [1, 2, 3, 4, 9, 11, 52, 54, 55, 57, 58, 59], [0, 1, 2, 3, 4, 5, 6, 7, 10, 9]⟩, ⟨17, 4, 23, [], [], [1, 2, 3, 4, 9, 11, 49, 50, 51, 53, 54, 55, 57, 58, 59], [0, 1, 2, 3, 4, 5, 6, 7, 8, 10, 9]⟩, ⟨18, 0, 23, [], [], [1, 2, 3, 4, 9, 11, 49, 50, 51, 53, 54, 55, 57, 58, 59], [0, 1, 2, 3, 4, 5, 6, 7, 10, 8, 9]⟩, ⟨19, 8, 24, [], [], [1, 2, 3, 4, 9, 52, 56, 57, 58, 59], [0, 1, 2, 3, 4, 5, 6, 7, 8, 9]⟩, ⟨19, 13, 25, [], [], [1, 2, 3, 4, 9, 11, 52, 56, 58, 59], [0, 1, 2, 3, 4, 5, 6, 9, 7, 8]⟩, ⟨20, 7, 24, [], [], [1, 2, 3, 4, 9, 52, 56, 57, 58, 59], [0, 1, 2, 3, 4, 5, 6, 7, 10, 9]⟩, ⟨20, 13, 26, [], [], [1, 2, 3, 4, 9, 11, 52, 53, 54, 55, 57, 58, 59], [0, 1, 2, 3, 4, 5, 6, 10, 7, 8, 9]⟩, ⟨21, 7, 25, [], [], [1, 2, 3, 4, 9, 11, 52, 56, 58, 59], [0, 1, 2, 3, 4, 5, 6, 7, 8, 10]⟩, ⟨21, 8, 26, [], [], [1, 2, 3, 4, 9, 11, 52, 53, 54, 55, 57, 58, 59], [0, 1, 2, 3, 4, 5, 6, 7, 8, 9, 10]⟩, ⟨22, 4, 26, [], [], [1, 2, 3, 4, 9, 11, 52, 53, 54, 55, 57, 58, 59], [0, 1, 2, 3, 4, 5, 6, 7, 8, 10, 9]⟩, ⟨23, 3, 26, [], [], [1, 2, 3, 4, 9, 11, 52, 53, 54, 55, 57, 58, 59], [0, 1, 2, 3, 4, 5, 6, 7, 11, 9, 10]⟩, ⟨24, 11, 27, [12], [], [1, 2, 3, 4, 9, 52, 56, 60, 61], [0, 1, 2, 3, 4, 5, 6, 7, 8, 10]⟩, ⟨24, 13, 28, [], [], [1, 2, 3, 4, 9, 11, 52, 56, 57, 58, 59], [0, 1, 2, 3, 4, 5, 6, 10, 7, 8, 9]⟩, ⟨25, 8, 28, [], [], [1, 2, 3, 4, 9, 11, 52, 56, 57, 58, 59], [0, 1, 2, 3, 4, 5, 6, 7, 8, 9, 10]⟩, ⟨26, 7, 28, [], [], [1, 2, 3, 4, 9, 11, 52, 56, 57, 58, 59], [0, 1, 2, 3, 4, 5, 6, 7, 8, 11, 10]⟩, ⟨27, 13, 29, [], [], [1, 2, 3, 4, 9, 11, 52, 56, 60, 61], [0, 1, 2, 3, 4, 5, 6, 10, 7, 8, 9]⟩, ⟨28, 11, 29, [12], [], [1, 2, 3, 4, 9, 11, 52, 56, 60, 61], [0, 1, 2, 3, 4, 5, 6, 7, 8, 9, 11]⟩, ⟨29, 14, 30, [], [], [1, 2, 3, 4, 9, 11], [0, 1, 2, 3, 4, 5, 6, 7, 8, 9, 10]⟩] [(0, 1), (0, 2), (0, 5), (0, 6), (0, 9), (0, 10), (1, 1), (1, 2), (1, 5), (1, 6), (1, 9), (1, 10), (2, 1), (2, 2), (2, 5), (2, 6), (2, 9), (2, 10), (3, 1), (3, 2), (3, 5), (3, 6), (3, 9), (3, 10), (4, 1), (4, 2), (4, 5), (4, 6), (4, 9), (4, 10), (5, 5), (5, 6), (5, 9), (5, 10), (6, 1), (6, 2), (6, 5), (6, 6), (6, 9), (6, 10), (7, 1), (7, 2), (7, 5), (7, 6), (7, 9), (7, 10), (8, 1), (8, 2), (8, 5), (8, 6), (8, 9), (8, 10), (9, 1), (9, 2), (9, 5), (9, 6), (9, 9), (9, 10), (10, 1), (10, 2), (10, 5), (10, 6), (10, 9), (10, 10), (11, 1), (11, 2), (11, 5), (11, 6), (11, 9), (11, 10), (12, 5), (12, 6), (12, 9), (12, 10), (13, 5), (13, 6), (13, 9), (13, 10), (14, 5), (14, 6), (14, 9), (14, 10), (15, 1), (15, 2), (15, 5), (15, 6), (15, 9), (15, 10), (16, 1), (16, 2), (16, 5), (16, 6), (16, 9), (16, 10), (17, 1), (17, 2), (17, 5), (17, 6), (17, 9), (17, 10), (18, 1), (18, 2), (18, 5), (18, 6), (18, 9), (18, 10), (19, 9), (19, 10), (20, 5), (20, 6), (20, 9), (20, 10), (21, 5), (21, 6), (21, 9), (21, 10), (22, 5), (22, 6), (22, 9), (22, 10), (23, 1), (23, 2), (23, 5), (23, 6), (23, 9), (23, 10), (24, 9), (24, 10), (25, 9), (25, 10), (26, 5), (26, 6), (26, 9), (26, 10), (27, 12), (28, 9), (28, 10), (29, 12)] 30 [1, 2, 3, 4, 9, 50, 51, 54, 55, 58, 59] [0, 1, 2, 3, 4, 5, 6] [] [1, 2, 3, 4, 9, 11] [0, 1, 2, 3, 4, 5, 6, 7, 8, 9, 10] (s' := ⟨[(1, .c (.sl 0 0 r48.2)), (2, kH 1), (3, kH 2), (4, kP 3 0), (9, kB r25), (11, kP 7 0)], [], [ob 5 l1, ob 5 l2, ob 5 l3, ⟨.blk, 25, 1, 3, .c [.wh 4, .wh 5, .wh 6]⟩, ow 55 l0_0, ow 55 l0_1, ow 55 l0_2, ⟨.blk, 25, 1, 3, .c [.wh 8, .wh 9, .wh 10]⟩, nw 55 ([] ++ l0_0), nw 55 ([] ++ l0_1), nw 55 ([] ++ l0_2)]⟩) (by kernel_rfl) ⟨_, (by kernel_rfl), allP_nil⟩ (AllE.cons ⟨_, (by kernel_rfl), allP_nil⟩ (AllE.cons ⟨_, (by kernel_rfl), allP_nil⟩ (AllE.cons ⟨_, (by kernel_rfl), allP_nil⟩ (AllE.cons ⟨_, (by kernel_rfl), allP_nil⟩ (AllE.cons ⟨_, (by kernel_rfl), (allP_cons.2 ⟨g7, allP_nil⟩)⟩ (AllE.cons ⟨_, (by kernel_rfl), allP_nil⟩ (AllE.cons ⟨_, (by kernel_rfl), allP_nil⟩ (AllE.cons ⟨_, (by kernel_rfl), allP_nil⟩ (AllE.cons ⟨_, (by kernel_rfl), allP_nil⟩ (AllE.cons ⟨_, (by kernel_rfl), allP_nil⟩ (AllE.cons ⟨_, (by kernel_rfl), allP_nil⟩ (AllE.cons ⟨_, (by kernel_rfl), allP_nil⟩ (AllE.cons ⟨_, (by kernel_rfl), allP_nil⟩ (AllE.cons ⟨_, (by kernel_rfl), allP_nil⟩ (AllE.cons ⟨_, (by kernel_rfl), allP_nil⟩ (AllE.cons ⟨_, (by kernel_rfl), allP_nil⟩ (AllE.cons ⟨_, (by kernel_rfl), allP_nil⟩ (AllE.cons ⟨_, (by kernel_rfl), allP_nil⟩ (AllE.cons ⟨_, (by kernel_rfl), allP_nil⟩ (AllE.cons ⟨_, (by kernel_rfl), allP_nil⟩ (AllE.cons ⟨_, (by kernel_rfl), (allP_cons.2 ⟨g7, allP_nil⟩)⟩ (AllE.cons ⟨_, (by kernel_rfl), allP_nil⟩ (AllE.cons ⟨_, (by kernel_rfl), allP_nil⟩ (AllE.cons ⟨_, (by kernel_rfl), (allP_cons.2 ⟨g7, allP_nil⟩)⟩ (AllE.cons ⟨_, (by kernel_rfl), allP_nil⟩ (AllE.cons ⟨_, (by kernel_rfl), allP_nil⟩ (AllE.cons ⟨_, (by kernel_rfl), (allP_cons.2 ⟨g7, allP_nil⟩)⟩ (AllE.cons ⟨_, (by kernel_rfl), allP_nil⟩ (AllE.cons ⟨_, (by kernel_rfl), allP_nil⟩ (AllE.cons ⟨_, (by kernel_rfl), allP_nil⟩ (AllE.cons ⟨_, (by kernel_rfl), allP_nil⟩ (AllE.cons ⟨_, (by kernel_rfl), allP_nil⟩ (AllE.cons ⟨_, (by kernel_rfl), allP_nil⟩ (AllE.cons ⟨_, (by kernel_rfl), allP_nil⟩ (AllE.cons ⟨_, (by kernel_rfl), allP_nil⟩ (AllE.cons ⟨_, (by kernel_rfl), (allP_cons.2 ⟨g8, allP_nil⟩)⟩ (AllE.cons ⟨_, (by kernel_rfl), allP_nil⟩ (AllE.cons ⟨_, (by kernel_rfl), allP_nil⟩ (AllE.cons ⟨_, (by kernel_rfl), allP_nil⟩ (AllE.cons ⟨_, (by kernel_rfl), allP_nil⟩ (AllE.cons ⟨_, (by kernel_rfl), allP_nil⟩ (AllE.cons ⟨_, (by kernel_rfl), allP_nil⟩ (AllE.cons ⟨_, (by kernel_rfl), (allP_cons.2 ⟨g7, allP_nil⟩)⟩ (AllE.cons ⟨_, (by kernel_rfl), allP_nil⟩ (AllE.cons ⟨_, (by kernel_rfl), (allP_cons.2 ⟨g7, allP_nil⟩)⟩ (AllE.cons ⟨_, (by kernel_rfl), allP_nil⟩ (AllE.cons ⟨_, (by kernel_rfl), (allP_cons.2 ⟨g7, allP_nil⟩)⟩ (AllE.cons ⟨_, (by kernel_rfl), allP_nil⟩ (AllE.cons ⟨_, (by kernel_rfl), allP_nil⟩ (AllE.cons ⟨_, (by kernel_rfl), allP_nil⟩ (AllE.cons ⟨_, (by kernel_rfl), allP_nil⟩ (AllE.cons ⟨_, (by kernel_rfl), (allP_cons.2 ⟨g8, allP_nil⟩)⟩ (AllE.cons ⟨_, (by kernel_rfl), allP_nil⟩ (AllE.cons ⟨_, (by kernel_rfl), (allP_cons.2 ⟨g8, allP_nil⟩)⟩ (AllE.cons ⟨_, (by kernel_rfl), allP_nil⟩ (AllE.cons ⟨_, (by kernel_rfl), allP_nil⟩ (AllE.cons ⟨_, (by kernel_rfl), (allP_cons.2 ⟨g7, allP_nil⟩)⟩ (AllE.cons ⟨_, (by kernel_rfl), (allP_cons.2 ⟨g9, allP_nil⟩)⟩ (AllE.cons ⟨_, (by kernel_rfl), allP_nil⟩ (AllE.cons ⟨_, (by kernel_rfl), allP_nil⟩ (AllE.cons ⟨_, (by kernel_rfl), (allP_cons.2 ⟨g8, allP_nil⟩)⟩ (AllE.cons ⟨_, (by kernel_rfl), allP_nil⟩ (AllE.cons ⟨_, (by kernel_rfl), (allP_cons.2 ⟨g9, allP_nil⟩)⟩ (AllE.cons ⟨_, (by kernel_rfl), allP_nil⟩ AllE.nil)))))))))))))))))))))))))))))))))))))))))))))))))))))))))))))))) (AllR.cons ⟨_, (by kernel_rfl), allP_nil⟩ (AllR.cons ⟨_, (by kernel_rfl), allP_nil⟩ (AllR.cons ⟨_, (by kernel_rfl), allP_nil⟩ (AllR.cons ⟨_, (by kernel_rfl), allP_nil⟩ (AllR.cons ⟨_, (by kernel_rfl), allP_nil⟩ (AllR.cons ⟨_, (by kernel_rfl), allP_nil⟩ (AllR.cons ⟨_, (by kernel_rfl), allP_nil⟩ (AllR.cons ⟨_, (by kernel_rfl), allP_nil⟩ (AllR.cons ⟨_, (by kernel_rfl), allP_nil⟩ (AllR.cons ⟨_, (by kernel_rfl), allP_nil⟩ (AllR.cons ⟨_, (by kernel_rfl), allP_nil⟩ (AllR.cons ⟨_, (by kernel_rfl), allP_nil⟩ (AllR.cons ⟨_, (by kernel_rfl), allP_nil⟩ (AllR.cons ⟨_, (by kernel_rfl), allP_nil⟩ (AllR.cons ⟨_, (by kernel_rfl), allP_nil⟩ (AllR.cons ⟨_, (by kernel_rfl), allP_nil⟩ (AllR.cons ⟨_, (by kernel_rfl), allP_nil⟩ (AllR.cons ⟨_, (by kernel_rfl), allP_nil⟩ (AllR.cons ⟨_, (by kernel_rfl), allP_nil⟩ (AllR.cons ⟨_, (by kernel_rfl), allP_nil⟩ (AllR.cons ⟨_, (by kernel_rfl), allP_nil⟩ (AllR.cons ⟨_, (by kernel_rfl), allP_nil⟩ (AllR.cons ⟨_, (by kernel_rfl), allP_nil⟩ (AllR.cons ⟨_, (by kernel_rfl), allP_nil⟩ (AllR.cons ⟨_, (by kernel_rfl), allP_nil⟩ (AllR.cons ⟨_, (by kernel_rfl), allP_nil⟩ (AllR.cons ⟨_, (by kernel_rfl), allP_nil⟩ (AllR.cons ⟨_, (by kernel_rfl), allP_nil⟩ (AllR.cons ⟨_, (by kernel_rfl), allP_nil⟩ (AllR.cons ⟨_, (by kernel_rfl), allP_nil⟩ (AllR.cons ⟨_, (by kernel_rfl), allP_nil⟩ (AllR.cons ⟨_, (by kernel_rfl), allP_nil⟩ (AllR.cons ⟨_, (by kernel_rfl), allP_nil⟩ (AllR.cons ⟨_, (by kernel_rfl), allP_nil⟩ (AllR.cons ⟨_, (by kernel_rfl), allP_nil⟩ (AllR.cons ⟨_, (by kernel_rfl), allP_nil⟩ (AllR.cons ⟨_, (by kernel_rfl), allP_nil⟩ (AllR.cons ⟨_, (by kernel_rfl), allP_nil⟩ (AllR.cons ⟨_, (by kernel_rfl), allP_nil⟩ (AllR.cons ⟨_, (by kernel_rfl), allP_nil⟩ (AllR.cons ⟨_, (by kernel_rfl), allP_nil⟩ (AllR.cons ⟨_, (by kernel_rfl), allP_nil⟩ (AllR.cons ⟨_, (by kernel_rfl), allP_nil⟩ (AllR.cons ⟨_, (by kernel_rfl), allP_nil⟩ (AllR.cons ⟨_, (by kernel_rfl), allP_nil⟩ (AllR.cons ⟨_, (by kernel_rfl), allP_nil⟩ (AllR.cons ⟨_, (by kernel_rfl), allP_nil⟩ (AllR.cons ⟨_, (by kernel_rfl), allP_nil⟩ (AllR.cons ⟨_, (by kernel_rfl), allP_nil⟩ (AllR.cons ⟨_, (by kernel_rfl), allP_nil⟩ (AllR.cons ⟨_, (by kernel_rfl), allP_nil⟩ (AllR.cons ⟨_, (by kernel_rfl), allP_nil⟩ (AllR.cons ⟨_, (by kernel_rfl), allP_nil⟩ (AllR.cons ⟨_, (by kernel_rfl), allP_nil⟩ (AllR.cons ⟨_, (by kernel_rfl), allP_nil⟩ (AllR.cons ⟨_, (by kernel_rfl), allP_nil⟩ (AllR.cons ⟨_, (by kernel_rfl), allP_nil⟩ (AllR.cons ⟨_, (by kernel_rfl), allP_nil⟩ (AllR.cons ⟨_, (by kernel_rfl), allP_nil⟩ (AllR.cons ⟨_, (by kernel_rfl), allP_nil⟩ (AllR.cons ⟨_, (by kernel_rfl), allP_nil⟩ (AllR.cons ⟨_, (by kernel_rfl), allP_nil⟩ (AllR.cons ⟨_, (by kernel_rfl), allP_nil⟩ (AllR.cons ⟨_, (by kernel_rfl), allP_nil⟩ (AllR.cons ⟨_, (by kernel_rfl), allP_nil⟩ (AllR.cons ⟨_, (by kernel_rfl), allP_nil⟩ (AllR.cons ⟨_, (by kernel_rfl), allP_nil⟩ (AllR.cons ⟨_, (by kernel_rfl), allP_nil⟩ (AllR.cons ⟨_, (by kernel_rfl), allP_nil⟩ (AllR.cons ⟨_, (by kernel_rfl), allP_nil⟩ (AllR.cons ⟨_, (by kernel_rfl), allP_nil⟩ (AllR.cons ⟨_, (by kernel_rfl), allP_nil⟩ (AllR.cons ⟨_, (by kernel_rfl), allP_nil⟩ (AllR.cons ⟨_, (by kernel_rfl), allP_nil⟩ (AllR.cons ⟨_, (by kernel_rfl), allP_nil⟩ (AllR.cons ⟨_, (by kernel_rfl), allP_nil⟩ (AllR.cons ⟨_, (by kernel_rfl), allP_nil⟩ (AllR.cons ⟨_, (by kernel_rfl), allP_nil⟩ (AllR.cons ⟨_, (by kernel_rfl), allP_nil⟩ (AllR.cons ⟨_, (by kernel_rfl), allP_nil⟩ (AllR.cons ⟨_, (by kernel_rfl), allP_nil⟩ (AllR.cons ⟨_, (by kernel_rfl), allP_nil⟩ (AllR.cons ⟨_, (by kernel_rfl), allP_nil⟩ (AllR.cons ⟨_, (by kernel_rfl), allP_nil⟩ (AllR.cons ⟨_, (by kernel_rfl), allP_nil⟩ (AllR.cons ⟨_, (by kernel_rfl), allP_nil⟩ (AllR.cons ⟨_, (by kernel_rfl), allP_nil⟩ (AllR.cons ⟨_, (by kernel_rfl), allP_nil⟩ (AllR.cons ⟨_, (by kernel_rfl), allP_nil⟩ (AllR.cons ⟨_, (by kernel_rfl), allP_nil⟩ (AllR.cons ⟨_, (by kernel_rfl), allP_nil⟩ (AllR.cons ⟨_, (by kernel_rfl), allP_nil⟩ (AllR.cons ⟨_, (by kernel_rfl), allP_nil⟩ (AllR.cons ⟨_, (by kernel_rfl), allP_nil⟩ (AllR.cons ⟨_, (by kernel_rfl), allP_nil⟩ (AllR.cons ⟨_, (by kernel_rfl), allP_nil⟩ (AllR.cons ⟨_, (by kernel_rfl), allP_nil⟩ (AllR.cons ⟨_, (by kernel_rfl), allP_nil⟩ (AllR.cons ⟨_, (by kernel_rfl), allP_nil⟩ (AllR.cons ⟨_, (by kernel_rfl), allP_nil⟩ (AllR.cons ⟨_, (by kernel_rfl), allP_nil⟩ (AllR.cons ⟨_, (by kernel_rfl), allP_nil⟩ (AllR.cons ⟨_, (by kernel_rfl), allP_nil⟩ (AllR.cons ⟨_, (by kernel_rfl), allP_nil⟩ (AllR.cons ⟨_, (by kernel_rfl), allP_nil⟩ (AllR.cons ⟨_, (by kernel_rfl), allP_nil⟩ (AllR.cons ⟨_, (by kernel_rfl), allP_nil⟩ (AllR.cons ⟨_, (by kernel_rfl), allP_nil⟩ (AllR.cons ⟨_, (by kernel_rfl), allP_nil⟩ (AllR.cons ⟨_, (by kernel_rfl), allP_nil⟩ (AllR.cons ⟨_, (by kernel_rfl), allP_nil⟩ (AllR.cons ⟨_, (by kernel_rfl), allP_nil⟩ (AllR.cons ⟨_, (by kernel_rfl), allP_nil⟩ (AllR.cons ⟨_, (by kernel_rfl), allP_nil⟩ (AllR.cons ⟨_, (by kernel_rfl), allP_nil⟩ (AllR.cons ⟨_, (by kernel_rfl), allP_nil⟩ (AllR.cons ⟨_, (by kernel_rfl), allP_nil⟩ (AllR.cons ⟨_, (by kernel_rfl), allP_nil⟩ (AllR.cons ⟨_, (by kernel_rfl), allP_nil⟩ (AllR.cons ⟨_, (by kernel_rfl), allP_nil⟩ (AllR.cons ⟨_, (by kernel_rfl), allP_nil⟩ (AllR.cons ⟨_, (by kernel_rfl), allP_nil⟩ (AllR.cons ⟨_, (by kernel_rfl), allP_nil⟩ (AllR.cons ⟨_, (by kernel_rfl), allP_nil⟩ (AllR.cons ⟨_, (by kernel_rfl), allP_nil⟩ (AllR.cons ⟨_, (by kernel_rfl), allP_nil⟩ (AllR.cons ⟨_, (by kernel_rfl), allP_nil⟩ (AllR.cons ⟨_, (by kernel_rfl), allP_nil⟩ (AllR.cons ⟨_, (by kernel_rfl), allP_nil⟩ (AllR.cons ⟨_, (by kernel_rfl), allP_nil⟩ (AllR.cons ⟨_, (by kernel_rfl), allP_nil⟩ (AllR.cons ⟨_, (by kernel_rfl), allP_nil⟩ (AllR.cons ⟨_, (by kernel_rfl), allP_nil⟩ (AllR.cons ⟨_, (by kernel_rfl), allP_nil⟩ (AllR.cons ⟨_, (by kernel_rfl), allP_nil⟩ (AllR.cons ⟨_, (by kernel_rfl), allP_nil⟩ (AllR.cons ⟨_, (by kernel_rfl), allP_nil⟩ (AllR.cons ⟨_, (by kernel_rfl), allP_nil⟩ AllR.nil)))))))))))))))))))))))))))))))))))))))))))))))))))))))))))))))))))))))))))))))))))))))))))))))))))))))))))))))))))))))))))))))))))))))))) (by kernel_rfl) ?_
     obtain ⟨g10, h⟩ := gd_some h
     refine Vgs hT fN [] [] [0, 1, 2, 3, 4, 5, 6, 7, 8, 9, 10, 12] ⟨[(1, .c (.sl 0 0 r48.2)), (2, kH 1), (3, kH 2), (4, kP 3 0), (9, kB r25), (11, kP 7 0), (12, kH 11)], [], [ob 5 l1, ob 5 l2, ob 5 l3, ⟨.blk, 25, 1, 3, .c [.wh 4, .wh 5, .wh 6]⟩, ow 55 l0_0, ow 55 l0_1, ow 55 l0_2, ⟨.blk, 25, 1, 3, .c [.wh 8, .wh 9, .wh 10]⟩, nw 55 ([] ++ l0_0), nw 55 ([] ++ l0_1), nw 55 ([] ++ l0_2), nb 5 ([] ++ l2)]⟩ (aP g10 aN) ?_
     obtain ⟨r68, g11, h⟩ := bind_some' h
     refine Vgs hT (fI 2 (kSign_ok n r68) hI fN) [] [] [0, 1, 2, 3, 4, 5, 6, 7, 8, 9, 10, 11, 12] ⟨[(1, .c (.sl 0 0 r48.2)), (2, kH 1), (3, kH 2), (4, kP 3 0), (9, kB r25), (11, kP 7 0), (12, kH 11), (13, kH 12), (14, kE 34 r68.2.2)], [], [ob 5 l1, ob 5 l2, ob 5 l3, ⟨.blk, 25, 1, 3, .c [.wh 4, .wh 5, .wh 6]⟩, ow 55 l0_0, ow 55 l0_1, ow 55 l0_2, ⟨.blk, 25, 1, 3, .c [.wh 8, .wh 9, .wh 10]⟩, nw 55 ([] ++ l0_0), nw 55 ([] ++ l0_1), nw 55 ([] ++ l0_2), nb 5 ([] ++ l2), ⟨.row, 5, 1, r68.2.1, .b r68.1⟩]⟩ (aP g11 aN) ?_
     obtain ⟨r76, g12, h⟩ := bind_some' h
     refine Vgs hT (fT 1 pub_h (fT 4 (kHide_ok n r76) fN)) [] [] [0, 1, 2, 3, 4, 5, 6, 7, 8, 9, 10, 11, 12, 13] ⟨[(1, .c (.sl 0 0 r48.2)), (2, kH 1), (3, kH 2), (4, kP 3 0), (9, kB r25), (11, kP 7 0), (12, kH 11), (13, kH 12), (14, kE 34 r68.2.2), (15, kH 13), (16, kE 34 r76.2.2)], [], [ob 5 l1, ob 5 l2, ob 5 l3, ⟨.blk, 25, 1, 3, .c [.wh 4, .wh 5, .wh 6]⟩, ow 55 l0_0, ow 55 l0_1, ow 55 l0_2, ⟨.blk, 25, 1, 3, .c [.wh 8, .wh 9, .wh 10]⟩, nw 55 ([] ++ l0_0), nw 55 ([] ++ l0_1), nw 55 ([] ++ l0_2), nb 5 ([] ++ l2), ⟨.row, 5, 1, r68.2.1, .b r68.1⟩, ⟨.row, 5, 1, r76.2.1, .b r76.1⟩]⟩ (aP g12 aN) ?_
     obtain ⟨g13, h⟩ := gd_some h
     refine Vgs hT fN [] [] [0, 1, 2, 3, 4, 5, 6, 7, 8, 9, 10, 11, 12] ⟨[(1, .c (.sl 0 0 r48.2)), (2, kH 1), (3, kH 2), (4, kP 3 0), (9, kB r25), (11, kP 7 0), (12, kH 11), (13, kH 12), (14, kE 34 r68.2.2), (16, kE 34 r76.2.2), (17, kT (r68.1 ++ r76.1))], [], [ob 5 l1, ob 5 l2, ob 5 l3, ⟨.blk, 25, 1, 3, .c [.wh 4, .wh 5, .wh 6]⟩, ow 55 l0_0, ow 55 l0_1, ow 55 l0_2, ⟨.blk, 25, 1, 3, .c [.wh 8, .wh 9, .wh 10]⟩, nw 55 ([] ++ l0_0), nw 55 ([] ++ l0_1), nw 55 ([] ++ l0_2), nb 5 ([] ++ l2), ⟨.row, 5, 1, r68.2.1, .b r68.1⟩]⟩ (aP g13 aN) ?_
     refine W_seq ?_
     refine Vrs hT [0, 1, 2, 3, 4, 5, 6, 7, 8, 9, 10, 11, 12] ⟨[(1, .c (.sl 0 0 r48.2)), (2, kH 1), (3, kH 2), (4, kP 3 0), (9, kB r25), (11, kP 7 0), (12, kH 11), (13, kH 12), (14, kE 34 r68.2.2), (16, kE 34 r76.2.2), (17, kT (r68.1 ++ r76.1)), (18, kI 0)], [], [ob 5 l1, ob 5 l2, ob 5 l3, ⟨.blk, 25, 1, 3, .c [.wh 4, .wh 5, .wh 6]⟩, ow 55 l0_0, ow 55 l0_1, ow 55 l0_2, ⟨.blk, 25, 1, 3, .c [.wh 8, .wh 9, .wh 10]⟩, nw 55 ([] ++ l0_0), nw 55 ([] ++ l0_1), nw 55 ([] ++ l0_2), nb 5 ([] ++ l2), ⟨.row, 5, 1, r68.2.1, .b r68.1⟩]⟩ ?_
     refine W_block ?_
     refine Vc [.vw 1 false] [13, 1, 2, 3, 4, 5, 6, 7, 8, 9, 10, 11, 12] (lStays_l1_E l0_0 l0_1 l0_2 l1 l2 l3 r25 r48 r68 r76 r68.1 0) (W_lp ((lStays_l1_P n l0_0 l0_1 l0_2 l1 l2 l3 r25 r48 r68 r76 r)) n ⟨_, _, rfl, h⟩ ?_)
     rintro fu_l1 _ ⟨l13_2, i18_2, rfl, h⟩
     cases fu_l1 with
     | zero => cases h
     | succ fu_l1 =>
      refine ⟨fu_l1, rfl, ?_⟩
      rw [lStays_l1] at h
      refine W_seq ?_
      refine Vrs hT [0, 1, 2, 3, 4, 5, 6, 7, 8, 9, 10, 11, 12] ⟨[(1, kH 0), (2, kH 1), (3, kH 2), (4, kP 3 0), (9, kB r25), (11, kP 7 0), (12, kH 11), (13, kH 12), (14, kE 34 r68.2.2), (16, kE 34 r76.2.2), (17, kT (r68.1 ++ r76.1)), (18, kI i18_2), (87, kB (decide (i18_2 < ((r68.2.1 : Nat) : Int))))], [], [⟨(.ro false), 5, 1, r48.2, .b ((l1.drop 0).take r48.2)⟩, ob 5 l2, ob 5 l3, ⟨.blk, 25, 1, 3, .c [.wh 4, .wh 5, .wh 6]⟩, ow 55 l0_0, ow 55 l0_1, ow 55 l0_2, ⟨.blk, 25, 1, 3, .c [.wh 8, .wh 9, .wh 10]⟩, nw 55 ([] ++ l0_0), nw 55 ([] ++ l0_1), nw 55 ([] ++ l0_2), nb 5 ([] ++ l2), ⟨.row, 5, 1, r68.2.1, .b l13_2⟩]⟩ ?_
      refine Vi ((decide (i18_2 < ((r68.2.1 : Nat) : Int)))) (fun g45 => ?_) (fun g45 => ?_)
      ·replace h := bif_t h g45
       refine W_skip ?_
       refine W_seq ?_
       refine W_block ?_
       obtain ⟨g14, g15, g16, g17, h⟩ := gd4 h
       refine Vg hT fN [] [] [0, 1, 2, 3, 4, 5, 6, 7, 8, 9, 10, 11, 12] ⟨[(1, kH 0), (2, kH 1), (3, kH 2), (4, kP 3 0), (9, kB r25), (11, kP 7 0), (12, kH 11), (13, kH 12), (14, kE 34 r68.2.2), (16, kE 34 r76.2.2), (17, kT (r68.1 ++ r76.1)), (18, kI i18_2)], [], [⟨(.ro false), 5, 1, r48.2, .b ((l1.drop 0).take r48.2)⟩, ob 5 l2, ob 5 l3, ⟨.blk, 25, 1, 3, .c [.wh 4, .wh 5, .wh 6]⟩, ow 55 l0_0, ow 55 l0_1, ow 55 l0_2, ⟨.blk, 25, 1, 3, .c [.wh 8, .wh 9, .wh 10]⟩, nw 55 ([] ++ l0_0), nw 55 ([] ++ l0_1), nw 55 ([] ++ l0_2), nb 5 ([] ++ l2), ⟨.row, 5, 1, r68.2.1, .b (l13_2.set i18_2.toNat ((l13_2.getD i18_2.toNat 0) + (1 : UInt8)))⟩]⟩ (aP g14 (aP g15 (aP g16 (aP g17 aN)))) ?_
       obtain ⟨g18, h⟩ := gd_some h
       refine Vg hT fN [] [] [0, 1, 2, 3, 4, 5, 6, 7, 8, 9, 10, 11, 12] (lStays_l1_E l0_0 l0_1 l0_2 l1 l2 l3 r25 r48 r68 r76 (l13_2.set i18_2.toNat ((l13_2.getD i18_2.toNat 0) + (1 : UInt8))) (i18_2 + 1)) (aP g18 aN) ?_
       exact ⟨_, _, rfl, h⟩
      ·replace h := bif_f h g45
       refine Vc [] [0, 1, 2, 3, 4, 5, 6, 7, 8, 9, 10, 11] ⟨[(1, kH 0), (2, kH 1), (3, kH 2), (4, kP 3 0), (9, kB r25), (11, kP 7 0), (12, kH 11), (14, kE 34 r68.2.2), (16, kE 34 r76.2.2), (17, kT (r68.1 ++ r76.1))], [], [⟨(.ro false), 5, 1, r48.2, .b ((l1.drop 0).take r48.2)⟩, ob 5 l2, ob 5 l3, ⟨.blk, 25, 1, 3, .c [.wh 4, .wh 5, .wh 6]⟩, ow 55 l0_0, ow 55 l0_1, ow 55 l0_2, ⟨.blk, 25, 1, 3, .c [.wh 8, .wh 9, .wh 10]⟩, nw 55 ([] ++ l0_0), nw 55 ([] ++ l0_1), nw 55 ([] ++ l0_2), nb 5 ([] ++ l2)]⟩ (W_exit ?_)
       refine W_seq ?_
       refine Vrs hT [0, 1, 2, 3, 4, 5, 6, 7, 8, 9, 10, 11] ⟨[(1, kH 0), (2, kH 1), (3, kH 2), (4, kP 3 0), (9, kB r25), (11, kP 7 0), (12, kH 11), (14, kE 34 r68.2.2), (16, kE 34 r76.2.2), (17, kT (r68.1 ++ r76.1)), (19, kI 0)], [], [⟨(.ro false), 5, 1, r48.2, .b ((l1.drop 0).take r48.2)⟩, ob 5 l2, ob 5 l3, ⟨.blk, 25, 1, 3, .c [.wh 4, .wh 5, .wh 6]⟩, ow 55 l0_0, ow 55 l0_1, ow 55 l0_2, ⟨.blk, 25, 1, 3, .c [.wh 8, .wh 9, .wh 10]⟩, nw 55 ([] ++ l0_0), nw 55 ([] ++ l0_1), nw 55 ([] ++ l0_2), nb 5 ([] ++ l2)]⟩ ?_
       refine W_block ?_
       refine Vc [] [0, 1, 2, 3, 4, 5, 6, 7, 8, 9, 10, 11] (lStays_l2_E l0_0 l0_1 l0_2 l1 l2 l3 r25 r48 r68 r76 ([] ++ l2) 0) (W_lp ((lStays_l2_P n l0_0 l0_1 l0_2 l1 l2 l3 r25 r48 r68 r76 r)) n ⟨_, _, rfl, h⟩ ?_)
       rintro fu_l2 _ ⟨l12_2, i19_2, rfl, h⟩
       cases fu_l2 with
       | zero => cases h
       | succ fu_l2 =>
        refine ⟨fu_l2, rfl, ?_⟩
        rw [lStays_l2] at h
        refine W_seq ?_
        refine Vrs hT [0, 1, 2, 3, 4, 5, 6, 7, 8, 9, 10, 11] ⟨[(1, kH 0), (2, kH 1), (3, kH 2), (4, kP 3 0), (9, kB r25), (11, kP 7 0), (12, kH 11), (14, kE 34 r68.2.2), (16, kE 34 r76.2.2), (17, kT (r68.1 ++ r76.1)), (19, kI i19_2), (101, kB (decide (i19_2 < ((([] ++ l2).length : Nat) : Int))))], [], [⟨(.ro false), 5, 1, r48.2, .b ((l1.drop 0).take r48.2)⟩, ob 5 l2, ob 5 l3, ⟨.blk, 25, 1, 3, .c [.wh 4, .wh 5, .wh 6]⟩, ow 55 l0_0, ow 55 l0_1, ow 55 l0_2, ⟨.blk, 25, 1, 3, .c [.wh 8, .wh 9, .wh 10]⟩, nw 55 ([] ++ l0_0), nw 55 ([] ++ l0_1), nw 55 ([] ++ l0_2), ⟨.row, 5, 1, ([] ++ l2).length, .b l12_2⟩]⟩ ?_
        refine Vi ((decide (i19_2 < ((([] ++ l2).length : Nat) : Int)))) (fun g44 => ?_) (fun g44 => ?_)
        ·replace h := bif_t h g44
         refine W_skip ?_
         refine W_seq ?_
         refine W_block ?_
         refine W_seq ?_
         obtain ⟨g19, g20, g21, g22, h⟩ := gd4 h
         refine Vds hT fN 8 [] [(1, false), (2, false), (3, false), (4, false), (9, false), (11, false), (12, false), (14, false), (16, false), (17, false), (19, false), (107, false), (111, false)] [] [0, 1, 2, 3, 4, 5, 6, 7, 8, 9, 10, 11] ⟨[(1, kH 0), (2, kH 1), (3, kH 2), (4, kP 3 0), (9, kB r25), (11, kP 7 0), (12, kH 11), (14, kE 34 r68.2.2), (16, kE 34 r76.2.2), (17, kT (r68.1 ++ r76.1)), (19, kI i19_2), (112, kB ((l12_2.getD i19_2.toNat 0) != (l2.getD i19_2.toNat 0)))], [], [⟨(.ro false), 5, 1, r48.2, .b ((l1.drop 0).take r48.2)⟩, ob 5 l2, ob 5 l3, ⟨.blk, 25, 1, 3, .c [.wh 4, .wh 5, .wh 6]⟩, ow 55 l0_0, ow 55 l0_1, ow 55 l0_2, ⟨.blk, 25, 1, 3, .c [.wh 8, .wh 9, .wh 10]⟩, nw 55 ([] ++ l0_0), nw 55 ([] ++ l0_1), nw 55 ([] ++ l0_2), ⟨.row, 5, 1, ([] ++ l2).length, .b l12_2⟩]⟩ (aP g19 (aP g20 (aP g21 (aP g22 aN)))) ?_
         refine Vi (((l12_2.getD i19_2.toNat 0) != (l2.getD i19_2.toNat 0))) (fun g28 => ?_) (fun g28 => ?_)
         ·replace h := bif_t h g28
          refine Vrs hT [] ⟨[(8, kB false)], [], []⟩ ?_
          refine Vc [] [] (lStays_R false) (W_ret ?_)
          exact ⟨.inl rfl, by cases h; rfl⟩
         ·replace h := bif_f h g28
          refine W_skip ?_
          obtain ⟨g23, g24, g25, g26, h⟩ := gd4 h
          refine Vg hT fN [] [] [0, 1, 2, 3, 4, 5, 6, 7, 8, 9, 10, 11] ⟨[(1, kH 0), (2, kH 1), (3, kH 2), (4, kP 3 0), (9, kB r25), (11, kP 7 0), (12, kH 11), (14, kE 34 r68.2.2), (16, kE 34 r76.2.2), (17, kT (r68.1 ++ r76.1)), (19, kI i19_2)], [], [⟨(.ro false), 5, 1, r48.2, .b ((l1.drop 0).take r48.2)⟩, ob 5 l2, ob 5 l3, ⟨.blk, 25, 1, 3, .c [.wh 4, .wh 5, .wh 6]⟩, ow 55 l0_0, ow 55 l0_1, ow 55 l0_2, ⟨.blk, 25, 1, 3, .c [.wh 8, .wh 9, .wh 10]⟩, nw 55 ([] ++ l0_0), nw 55 ([] ++ l0_1), nw 55 ([] ++ l0_2), ⟨.row, 5, 1, ([] ++ l2).length, .b (l12_2.set i19_2.toNat ((l12_2.getD i19_2.toNat 0) + (1 : UInt8)))⟩]⟩ (aP g23 (aP g24 (aP g25 (aP g26 aN)))) ?_
          obtain ⟨g27, h⟩ := gd_some h
          refine Vg hT fN [] [] [0, 1, 2, 3, 4, 5, 6, 7, 8, 9, 10, 11] (lStays_l2_E l0_0 l0_1 l0_2 l1 l2 l3 r25 r48 r68 r76 (l12_2.set i19_2.toNat ((l12_2.getD i19_2.toNat 0) + (1 : UInt8))) (i19_2 + 1)) (aP g27 aN) ?_
          exact ⟨_, _, rfl, h⟩
        ·replace h := bif_f h g44
         refine Vc [] [0, 1, 2, 3, 4, 5, 6, 7, 8, 9, 10] ⟨[(1, kH 0), (2, kH 1), (3, kH 2), (4, kP 3 0), (9, kB r25), (11, kP 7 0), (14, kE 34 r68.2.2), (16, kE 34 r76.2.2), (17, kT (r68.1 ++ r76.1))], [], [⟨(.ro false), 5, 1, r48.2, .b ((l1.drop 0).take r48.2)⟩, ob 5 l2, ob 5 l3, ⟨.blk, 25, 1, 3, .c [.wh 4, .wh 5, .wh 6]⟩, ow 55 l0_0, ow 55 l0_1, ow 55 l0_2, ⟨.blk, 25, 1, 3, .c [.wh 8, .wh 9, .wh 10]⟩, nw 55 ([] ++ l0_0), nw 55 ([] ++ l0_1), nw 55 ([] ++ l0_2)]⟩ (W_exit ?_)
         obtain ⟨r124, g29, h⟩ := bind_some' h
         refine Vgs hT (fI 2 (kSign_ok n r124) hI fN) [] [] [1, 2, 3, 4, 5, 6, 7, 8, 9, 10, 11] ⟨[(2, kH 0), (3, kH 1), (4, kP 2 0), (9, kB r25), (11, kP 6 0), (14, kE 34 r68.2.2), (16, kE 34 r76.2.2), (17, kT (r68.1 ++ r76.1)), (20, kH 10), (21, kE 34 r124.2.2)], [], [ob 5 l2, ob 5 l3, ⟨.blk, 25, 1, 3, .c [.wh 3, .wh 4, .wh 5]⟩, ow 55 l0_0, ow 55 l0_1, ow 55 l0_2, ⟨.blk, 25, 1, 3, .c [.wh 7, .wh 8, .wh 9]⟩, nw 55 ([] ++ l0_0), nw 55 ([] ++ l0_1), nw 55 ([] ++ l0_2), ⟨.row, 5, 1, r124.2.1, .b r124.1⟩]⟩ (aP g29 aN) ?_
         obtain ⟨r132, g30, h⟩ := bind_some' h
         refine Vgs hT (fT 1 pub_h (fT 4 (kHide_ok n r132) fN)) [] [] [2, 3, 4, 5, 6, 7, 8, 9, 10, 11] ⟨[(4, kP 0 0), (9, kB r25), (11, kP 4 0), (14, kE 34 r68.2.2), (16, kE 34 r76.2.2), (17, kT (r68.1 ++ r76.1)), (20, kH 8), (21, kE 34 r124.2.2), (22, kH 9), (23, kE 34 r132.2.2)], [], [⟨.blk, 25, 1, 3, .c [.wh 1, .wh 2, .wh 3]⟩, ow 55 l0_0, ow 55 l0_1, ow 55 l0_2, ⟨.blk, 25, 1, 3, .c [.wh 5, .wh 6, .wh 7]⟩, nw 55 ([] ++ l0_0), nw 55 ([] ++ l0_1), nw 55 ([] ++ l0_2), ⟨.row, 5, 1, r124.2.1, .b r124.1⟩, ⟨.row, 5, 1, r132.2.1, .b r132.1⟩]⟩ (aP g30 aN) ?_
         refine W_seq ?_
         obtain ⟨r137, g31, h⟩ := bind_some' h
         obtain ⟨r140, g32, h⟩ := bind_some' h
         obtain ⟨r141, g33, h⟩ := bind_some' h
         rcases Bool.eq_false_or_eq_true (r141 == 0) with g34 | g34
         ·replace h := bif_t h g34
          obtain ⟨r146, g35, h⟩ := bind_some' h
          obtain ⟨r149, g36, h⟩ := bind_some' h
          obtain ⟨r150, g37, h⟩ := bind_some' h
          refine Vd hT (fT 2 (rOf_ok n r137) (fT 5 (rOf_ok n r140) (fT 6 (rCmp_ok n r141) (fT 11 (rOf_ok n r146) (fT 14 (rOf_ok n r149) (fT 15 (rCmp_ok n r150) fN)))))) 16 [(8, true)] [(9, false), (14, false), (16, false), (17, false), (20, false), (21, false), (22, false), (23, false), (143, false), (150, false)] [] [8, 9] ⟨[(9, kB r25), (14, kE 34 r68.2.2), (16, kE 34 r76.2.2), (17, kT (r68.1 ++ r76.1)), (20, kH 0), (21, kE 34 r124.2.2), (22, kH 1), (23, kE 34 r132.2.2), (24, kB (r150 == 0))], [], [⟨.row, 5, 1, r124.2.1, .b r124.1⟩, ⟨.row, 5, 1, r132.2.1, .b r132.1⟩]⟩ (aP g31 (aP g32 (aP g33 (aP g34 (aP g35 (aP g36 (aP g37 aN))))))) ?_
          refine W_seq ?_
          rcases Bool.eq_false_or_eq_true r25 with g38 | g38
          ·replace h := bif_t h g38
           rcases Bool.eq_false_or_eq_true (r150 == 0) with g39 | g39
           ·replace h := bif_t h g39
            rcases Bool.eq_false_or_eq_true (((r68.2.2).isNone) == ((r124.2.2).isNone)) with g40 | g40
            ·replace h := bif_t h g40
             rcases Bool.eq_false_or_eq_true (((r76.2.2).isNone) == ((r132.2.2).isNone)) with g41 | g41
             ·replace h := bif_t h g41
              obtain ⟨g42, h⟩ := gd_some h
              refine Vd hT fN 25 [(1, true), (4, true), (11, true), (18, true)] [(171, false), (176, false), (177, false)] [] [] ⟨[(8, kB ((r124.1 ++ r132.1) == (r68.1 ++ r76.1)))], [], []⟩ (aP g38 (aP g39 (aP g40 (aP g41 (aP g42 aN))))) ?_
              refine Vc [] [] (lStays_R ((r124.1 ++ r132.1) == (r68.1 ++ r76.1))) (W_ret ?_)
              exact ⟨.inl rfl, by cases h; rfl⟩
             ·replace h := bif_f h g41
              refine Vd hT fN 25 [(1, true), (4, true), (11, true), (18, false)] [(171, false), (176, false), (177, false)] [] [] ⟨[(8, kB false)], [], []⟩ (aP g38 (aP g39 (aP g40 (aP g41 aN)))) ?_
              refine Vc [] [] (lStays_R false) (W_ret ?_)
              exact ⟨.inl rfl, by cases h; rfl⟩
            ·replace h := bif_f h g40
             refine Vd hT fN 25 [(1, true), (4, true), (11, false)] [(171, false), (176, false), (177, false)] [] [] ⟨[(8, kB false)], [], []⟩ (aP g38 (aP g39 (aP g40 aN))) ?_
             refine Vc [] [] (lStays_R false) (W_ret ?_)
             exact ⟨.inl rfl, by cases h; rfl⟩
           ·replace h := bif_f h g39
            refine Vd hT fN 25 [(1, true), (4, false)] [(171, false), (176, false), (177, false)] [] [] ⟨[(8, kB false)], [], []⟩ (aP g38 (aP g39 aN)) ?_
            refine Vc [] [] (lStays_R false) (W_ret ?_)
            exact ⟨.inl rfl, by cases h; rfl⟩
          ·replace h := bif_f h g38
           refine Vd hT fN 25 [(1, false)] [(171, false), (176, false), (177, false)] [] [] ⟨[(8, kB false)], [], []⟩ (aP g38 aN) ?_
           refine Vc [] [] (lStays_R false) (W_ret ?_)
           exact ⟨.inl rfl, by cases h; rfl⟩
         ·replace h := bif_f h g34
          refine Vd hT (fT 2 (rOf_ok n r137) (fT 5 (rOf_ok n r140) (fT 6 (rCmp_ok n r141) fN))) 16 [(8, false)] [(9, false), (14, false), (16, false), (17, false), (20, false), (21, false), (22, false), (23, false), (143, false), (150, false)] [] [8, 9] ⟨[(9, kB r25), (14, kE 34 r68.2.2), (16, kE 34 r76.2.2), (17, kT (r68.1 ++ r76.1)), (20, kH 0), (21, kE 34 r124.2.2), (22, kH 1), (23, kE 34 r132.2.2), (24, kB false)], [], [⟨.row, 5, 1, r124.2.1, .b r124.1⟩, ⟨.row, 5, 1, r132.2.1, .b r132.1⟩]⟩ (aP g31 (aP g32 (aP g33 (aP g34 aN)))) ?_
          refine W_seq ?_
          rcases Bool.eq_false_or_eq_true r25 with g43 | g43
          ·replace h := bif_t h g43
           refine Vd hT fN 25 [(1, true)] [(171, false), (176, false), (177, false)] [] [] ⟨[(8, kB false)], [], []⟩ (aP g43 aN) ?_
           refine Vc [] [] (lStays_R false) (W_ret ?_)
           exact ⟨.inl rfl, by cases h; rfl⟩
          ·replace h := bif_f h g43
           refine Vd hT fN 25 [(1, false)] [(171, false), (176, false), (177, false)] [] [] ⟨[(8, kB false)], [], []⟩ (aP g43 aN) ?_
           refine Vc [] [] (lStays_R false) (W_ret ?_)
           exact ⟨.inl rfl, by cases h; rfl⟩
end Go.Proofs.YthichmclbiggmaaDoor
end
section
namespace Go.Sx
open Go Go.RowKit Go.Ch Go.Proofs.YthichmclbiggmaaDoor
theorem lStays_l2_is (N E D : List UInt32) (b0 t f : List UInt8) (b : List UInt8) (m : Nat) (hb : (b0.drop 0).take m = b) (S H : List UInt8 × Nat × Option Int) (hS : kSign N64 N E D b = some S) (hH : kHide N64 N E t f = some H) (hN : N.length ≤ 70) (hD : D.length ≤ 70) (ht : t.length ≤ 300) (hl : S.1.length + H.1.length ≤ 9223372036854775807) : ∀ (q i fu : Nat) (l : List UInt8), i + q = t.length → q < fu → (∀ j, i ≤ j → l.getD j 0 = t.getD j 0) →
  lStays_l2 N64 N E D b0 t f true (b0, m) S H fu l (i : Int) = some true := by
 have hn := hN64
 intro q
 induction q with
 | zero =>
  intro i fu l hi hf hg
  cases fu with
  | zero => omega
  | succ fu =>
   have hEN := E2 (nV N) (k := N.length) D_le
   have hED := E2 (nV D) (k := D.length) D_le
   rw [lStays_l2, ite_f (by simp; omega)]
   dsimp only
   rw [hb, hS, Option.bind_some, hH, Option.bind_some, List.nil_append, rOf_is hn (by omega), Option.bind_some, Option.bind_some, List.nil_append, rOf_is hn (by omega), Option.bind_some, Option.bind_some]
   dsimp only
   rw [rCmp_is hn (by omega) (by omega), Option.bind_some, cmpN_eq rfl, ite_t (by rfl), rCmp_is hn (by omega) (by omega), Option.bind_some, cmpN_eq rfl, gd_pos hl]
   simp
 | succ q ih =>
  intro i fu l hi hf hg
  cases fu with
  | zero => omega
  | succ fu =>
   rw [lStays_l2, ite_t (by simp; omega), gd_pos (by omega), gd_pos (by simp; omega), gd_pos (by omega), gd_pos (by omega), Int.toNat_natCast, hg i (Nat.le_refl _), ite_f (by simp), gd_pos (by omega), gd_pos (by simp; omega), gd_pos (by omega), gd_pos (by simp; omega), gd_pos (okI64 (by omega) (by omega))]
   refine ih (i + 1) fu _ (by omega) (by omega) (fun j hj => ?_)
   rw [getD_set_ne _ _ (by omega)]
   exact hg j (by omega)
theorem lStays_l1_is (N E D : List UInt32) (b0 t f : List UInt8) (b : List UInt8) (m : Nat) (hb : (b0.drop 0).take m = b) (S H : List UInt8 × Nat × Option Int) (hS : kSign N64 N E D b = some S) (hH : kHide N64 N E t f = some H) (hN : N.length ≤ 70) (hD : D.length ≤ 70) (ht : t.length ≤ 300) (hl : S.1.length + H.1.length ≤ 9223372036854775807) (hs : S.2.1 ≤ 1000000) : ∀ (q i fu : Nat) (l : List UInt8), i + q = S.2.1 → q < fu →
  lStays_l1 N64 N E D b0 t f true (b0, m) S H fu l (i : Int) = some true := by
 intro q
 induction q with
 | zero =>
  intro i fu l hi hf
  cases fu with
  | zero => omega
  | succ fu =>
   rw [lStays_l1, ite_f (by simp; omega)]
   exact lStays_l2_is N E D b0 t f b m hb S H hS hH hN hD ht hl t.length 0 N64 _ (by omega) (by unfold N64; omega) (fun j _ => by simp)
 | succ q ih =>
  intro i fu l hi hf
  cases fu with
  | zero => omega
  | succ fu =>
   rw [lStays_l1, ite_t (by simp; omega), gd_pos (by omega), gd_pos (by omega), gd_pos (by omega), gd_pos (by omega), gd_pos (okI64 (by omega) (by omega))]
   exact ih (i + 1) fu _ (by omega) (by omega)
theorem lStays_is (N E D : List UInt32) (b0 t f : List UInt8) : lStays N64 N E D b0 t f = some true := by
 have hn := hN64
 unfold lStays
 rw [kup_is, Option.bind_some, klight_is, Option.bind_some]
 by_cases hl : N.length ≤ 70 ∧ E.length ≤ 70 ∧ D.length ≤ 70
 ·obtain ⟨hN, hE, hD⟩ := hl
  rw [ite_f (by simp [hN, hE, hD])]
  by_cases hE2 : E.length ≤ 2
  ·rw [ite_f (by simp; omega)]
   by_cases ht : t.length ≤ 300
   ·rw [ite_f (by simp; omega)]
    by_cases hf : f.length ≤ 300
    ·obtain ⟨m, h1, h2⟩ := kcut_is N64 b0 300
     rw [ite_f (by simp; omega), show (300 : Int) = ((300 : Nat) : Int) from rfl, h1, Option.bind_some, gd_pos (by unfold rmB; omega), gd_pos (by unfold rmB; omega), gd_pos (by unfold rmB; omega), gd_pos (by unfold rmB; omega)]
     dsimp only
     obtain ⟨b, hb⟩ : ∃ b, (b0.drop 0).take m = b := ⟨_, rfl⟩
     rw [hb] at h2 ⊢
     have hS := kSign_is hn (N := N) (E := E) (D := D) (b := b) (by omega) (by omega) (by omega) (by omega)
     have hH := kHide_is hn (N := N) (E := E) (t := t) (f := f) (by omega) (by omega) (by omega) (by omega)
     have s1 : (if secS (nV N) (nV E) (nV D) then (sigS (nV N) (nV D) b, (dB (nV N)).length, none) else ([], 0, some 1) : List UInt8 × Nat × Option Int).1.length ≤ 1000 ∧ (if secS (nV N) (nV E) (nV D) then (sigS (nV N) (nV D) b, (dB (nV N)).length, none) else ([], 0, some 1) : List UInt8 × Nat × Option Int).2.1 ≤ 1000 := by
      cases hs : secS (nV N) (nV E) (nV D) with
      | false => simp
      | true =>
       obtain ⟨hP, h0, hlt⟩ := secS_ok hs
       obtain ⟨k1, k2, _⟩ := okP_iff.1 hP
       rw [if_pos rfl]
       exact ⟨by dsimp only; rw [sigS_len (by omega)]; omega, by dsimp only; omega⟩
     have s2 : (if okP (nV N) (nV E) then hideS (dB (nV N)).length (nV E) (nV N) t f else ([], 0, some 1) : List UInt8 × Nat × Option Int).1.length ≤ 1000 := by
      cases hs : okP (nV N) (nV E) with
      | false => simp
      | true =>
       obtain ⟨k1, k2, _, _, _, hlt⟩ := okP_iff.1 hs
       rw [if_pos rfl]
       unfold hideS powS
       split
       ·split
        ·dsimp only; rw [padB_len (pow_len _ _ (by omega))]; omega
        ·simp
       ·simp
     generalize (if secS (nV N) (nV E) (nV D) then (sigS (nV N) (nV D) b, (dB (nV N)).length, none) else ([], 0, some 1) : List UInt8 × Nat × Option Int) = S at *
     generalize (if okP (nV N) (nV E) then hideS (dB (nV N)).length (nV E) (nV N) t f else ([], 0, some 1) : List UInt8 × Nat × Option Int) = H at *
     simp only [List.nil_append]
     rw [hS, Option.bind_some, hH, Option.bind_some, gd_pos (by omega)]
     exact lStays_l1_is N E D b0 t f b m hb S H hS hH hN hD ht (by omega) (by omega) S.2.1 0 N64 _ (by omega) (by unfold N64; omega)
    ·rw [ite_t (by simp; omega)]
   ·rw [ite_t (by simp; omega)]
  ·rw [ite_t (by simp; omega)]
 ·rw [ite_t (by simp; omega)]
end Go.Sx
end
section
namespace Go.Sx
open Go Go.RowKit Go.Ch Go.Proofs.YthichmclbiggmaaDoor
end Go.Sx
namespace Go.Proofs.YthichmclbiggmaaDoor
open Go.RowKit Go.Ch Go.Sx
theorem rsaStays_c (w : World) (B0_0 : Nat) (v0_0 : Value) (l0_0 : List UInt32) (hv0_0 : Sl w B0_0 v0_0 (l0_0.map w32)) (B0_1 : Nat) (v0_1 : Value) (l0_1 : List UInt32) (hv0_1 : Sl w B0_1 v0_1 (l0_1.map w32)) (B0_2 : Nat) (v0_2 : Value) (l0_2 : List UInt32) (hv0_2 : Sl w B0_2 v0_2 (l0_2.map w32)) (B1 : Nat) (v1 : Value) (l1 : List UInt8) (hv1 : Sl w B1 v1 (l1.map bU)) (B2 : Nat) (v2 : Value) (l2 : List UInt8) (hv2 : Sl w B2 v2 (l2.map bU)) (B3 : Nat) (v3 : Value) (l3 : List UInt8) (hv3 : Sl w B3 v3 (l3.map bU)) (hG : GK w) :
  Calls Tryd.prog 6 #[.agg #[v0_0, v0_1, v0_2], v1, v2, v3] w (Ret fun v' w' => Ext w w' ∧ v' = .bool true) := by
 obtain ⟨p0_0, a0_0, b0_0⟩ := in_w hv0_0 55
 obtain ⟨p0_1, a0_1, b0_1⟩ := in_w hv0_1 55
 obtain ⟨p0_2, a0_2, b0_2⟩ := in_w hv0_2 55
 obtain ⟨p1, a1, b1⟩ := in_b hv1 5
 obtain ⟨p2, a2, b2⟩ := in_b hv2 5
 obtain ⟨p3, a3, b3⟩ := in_b hv3 5
 exact law_of (lStays_ok N64 true) (args := [.g 3 (.c [.wh 0, .wh 1, .wh 2]), .c (.wh 3), .c (.wh 4), .c (.wh 5)]) (H := [⟨.ro false, 55, 1, l0_0.length, .w l0_0⟩, ⟨.ro false, 55, 1, l0_1.length, .w l0_1⟩, ⟨.ro false, 55, 1, l0_2.length, .w l0_2⟩, ⟨.ro false, 5, 1, l1.length, .b l1⟩, ⟨.ro false, 5, 1, l2.length, .b l2⟩, ⟨.ro false, 5, 1, l3.length, .b l3⟩]) (ρ := plL [p0_0, p0_1, p0_2, p1, p2, p3]) (vals := [.agg #[v0_0, v0_1, v0_2], v1, v2, v3]) rfl (allP_cons.2 ⟨lStays_is l0_0 l0_1 l0_2 l1 l2 l3, allP_nil⟩) hG (hpL (ps := [p0_0, p0_1, p0_2, p1, p2, p3]) (F2.cons b0_0 (F2.cons b0_1 (F2.cons b0_2 (F2.cons b1 (F2.cons b2 (F2.cons b3 F2.nil))))))) (F2.cons ⟨[v0_0, v0_1, v0_2], (F2.cons a0_0 (F2.cons a0_1 (F2.cons a0_2 F2.nil))), rfl, rfl⟩ (F2.cons a1 (F2.cons a2 (F2.cons a3 F2.nil))))
end Go.Proofs.YthichmclbiggmaaDoor
end
section
namespace Go.Ch
open Go.ChangeShapes Go.WideShapes Go.RowKit
theorem words_of_ints' {zs : List Int} (h : ∀ z ∈ zs, (Lit.int .u32 z).wf = true) : ∃ ws : List UInt32, zs.map (Value.int .u32) = ws.map w32 := by
 induction zs with
 | nil => exact ⟨[], rfl⟩
 | cons z zs ih =>
  obtain ⟨ws, h1⟩ := ih (fun y hy => h y (by simp [hy]))
  have h2 := h z (by simp)
  simp [Lit.wf, IntKind.min, IntKind.max, IntKind.signed, IntKind.bits] at h2
  refine ⟨UInt32.ofNat z.toNat :: ws, ?_⟩
  rw [List.map_cons, List.map_cons, h1]
  congr 1
  unfold w32
  congr 1
  simp
  omega
def natsB (P : Program) (t : TypeId) (n : Nat) : Bool := (match P.underlying t with
 | some (.struct fs) => fs.size == n && (List.range n).all fun i => match fs[i]? with
  | some f => f.offset == i && (match P.underlying f.type with | some (.slice e) => (match P.underlying e with | some (.int .u32) => P.cellsOf e == 1 | _ => false) | _ => false) && P.cellsOf f.type == 1
  | none => false
 | _ => false) && P.cellsOf t == n
theorem open_nats {H : Type} {enc : TypeId × Value → H} {P : Program} {W : World} {t : TypeId} {n : Nat} {v : Value} {d : DataW H} {p : List MemPlace} {base : Nat} {held : Bool} (hb : natsB P t n = true)
  (hok : Value.okWide P W .any base t v) (h : DataW.Trod enc P W 0 (fun _ => true) held t v d p) : ∃ l : List Value, l.length = n ∧ v = .agg l.toArray ∧ ∀ i, i < n → ∃ c ws, l[i]? = some c ∧ Sl W W.heap.size c (List.map w32 ws) := by
 unfold natsB at hb
 split at hb
 ·rename_i fs ht
  simp only [Bool.and_eq_true, beq_iff_eq, List.all_eq_true, List.mem_range] at hb
  obtain ⟨⟨hfs, hfa⟩, hct⟩ := hb
  obtain ⟨cs, rfl, hsz, _⟩ : ∃ cs, v = .agg cs ∧ cs.size = P.cellsOf t ∧ Row.okWide P W .any base t cs := by
   simpa [Value.okWide, ht] using hok
  obtain ⟨fuel, hf⟩ := h
  obtain ⟨xs, m, _, _, hl, hxl, hel⟩ := DataW.trod_struct ht hf
  obtain ⟨l⟩ := cs
  have hlen : l.length = n := by rw [← hct]; exact hsz
  refine ⟨l, hlen, rfl, fun i hi => ?_⟩
  have h0 := hfa i hi
  split at h0
  ·rename_i f hfi
   simp only [Bool.and_eq_true, beq_iff_eq] at h0
   obtain ⟨⟨ho, hu⟩, hc⟩ := h0
   split at hu
   ·rename_i e hue
    split at hu
    ·rename_i hee
     simp only [beq_iff_eq] at hu
     have h1 := hel i f hfi
     rw [hc, ho] at h1
     rw [List.getElem?_eq_getElem (show i < xs.length by rw [hxl, hfs]; exact hi)] at h1
     obtain ⟨a, ha⟩ : ∃ a, l[i]? = some a := ⟨l[i]'(by omega), List.getElem?_eq_getElem (by omega)⟩
     have hone : (l.drop i).take 1 = [a] := by
      obtain ⟨hi2, rfl⟩ := List.getElem?_eq_some_iff.1 ha
      rw [List.drop_eq_getElem_cons hi2]; rfl
     have h1' : DataW.trod enc P W 0 (fun _ => true) held m f.type ((l.drop i).take 1) = _ := h1
     rw [hone] at h1'
     have : ∃ ws, Sl W W.heap.size a (List.map w32 ws) := by
      rcases open_ints hue hee hu h1' with ⟨hcs, _⟩ | ⟨x, l, c, zs, hcs, _, hl, hm, hz, _, hcell, hwz⟩
      ·simp [Value.cells] at hcs
       subst hcs
       exact ⟨[], (sl_of_row (k := .u32) (w := W) (zs := []) (.inl ⟨rfl, rfl, rfl, rfl⟩)).1⟩
      ·simp [Value.cells] at hcs
       subst hcs
       obtain ⟨h1, h2⟩ := sl_of_row (k := .u32) (w := W) (zs := zs) (.inr ⟨_, rfl, hl, hm, by simpa using hz, hcell, hwz⟩)
       obtain ⟨l, hl⟩ := words_of_ints' h2
       exact ⟨l, by rw [← hl]; exact h1⟩
     obtain ⟨ws, hws⟩ := this
     exact ⟨a, ws, ha, hws⟩
    ·cases hu
   ·cases hu
  ·cases h0
 ·simp at hb
theorem open_nats3 {H : Type} {enc : TypeId × Value → H} {P : Program} {W : World} {t : TypeId} {v : Value} {d : DataW H} {p : List MemPlace} {base : Nat} {held : Bool} (hb : natsB P t 3 = true)
  (hok : Value.okWide P W .any base t v) (h : DataW.Trod enc P W 0 (fun _ => true) held t v d p) : ∃ (a b c : Value) (x y z : List UInt32), v = .agg #[a, b, c] ∧ Sl W W.heap.size a (x.map w32) ∧ Sl W W.heap.size b (y.map w32) ∧ Sl W W.heap.size c (z.map w32) := by
 obtain ⟨l, hl, rfl, hk⟩ := open_nats hb hok h
 match l, hl with
 | [a, b, c], _ =>
  obtain ⟨_, x, h0, hx⟩ := hk 0 (by decide)
  obtain ⟨_, y, h1, hy⟩ := hk 1 (by decide)
  obtain ⟨_, z, h2, hz⟩ := hk 2 (by decide)
  simp at h0 h1 h2
  subst h0; subst h1; subst h2
  exact ⟨a, b, c, x, y, z, rfl, hx, hy, hz⟩
end Go.Ch
end
