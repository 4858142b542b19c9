import Derived.Test.YtiojofjllkhbhaaGreatZ5
import Derived.Test.YtiojofjllkhbhaaGreatProg
import Derived.Shelf.RegionOpenPlain
import Derived.WalkKit
import Derived.Lib.Walk
import Derived.Lib.SliceRun
import Derived.Lib.AppendZerosOnto
import Derived.ChangeArms
set_option linter.unusedVariables false
set_option linter.unusedSimpArgs false
section
namespace Go.Sx
open Go Go.RowKit Go.Ch Go.Proofs.YtiojofjllkhbhaaGreat
theorem zpos {l : List Int} (h : l.length ≠ 0) : nZ l = nZ (l.take (l.length - 1)) + 65536 ^ (l.length - 1) * (l.getD (l.length - 1) 0).toNat := by
 have h1 := Z_take l (l.length - 1) (by omega)
 rwa [show l.length - 1 + 1 = l.length by omega, List.take_length] at h1
theorem lastZ {l : List Int} (h : l ≠ []) : l.getLast h = l.getD (l.length - 1) 0 := by
 have : l.length - 1 < l.length := by have := List.length_pos_iff.2 h; omega
 rw [List.getLast_eq_getElem, List.getD_eq_getElem?_getD, List.getElem?_eq_getElem this]; rfl
theorem Dz.get {l : List Int} (h : Dz l) (i : Nat) : 0 ≤ l.getD i 0 ∧ l.getD i 0 < 65536 := by
 by_cases hi : i < l.length
 ·rw [List.getD_eq_getElem?_getD, List.getElem?_eq_getElem hi]; exact h _ (List.getElem_mem hi)
 ·rw [List.getD_eq_getElem?_getD, List.getElem?_eq_none (by omega)]; decide
theorem Dz.take {l : List Int} (h : Dz l) (i : Nat) : Dz (l.take i) := fun x hx => h x (List.mem_of_mem_take hx)
theorem Dz.app {l m : List Int} (h : Dz l) (h2 : Dz m) : Dz (l ++ m) := fun x hx => (List.mem_append.1 hx).elim (h x) (h2 x)
theorem Dz.one {x : Int} (h : 0 ≤ x ∧ x < 65536) : Dz [x] := fun y hy => by rw [List.mem_singleton.1 hy]; exact h
theorem Dz.nil : Dz [] := fun x hx => by cases hx
theorem Dz.rep (n : Nat) : Dz (List.replicate n 0) := fun x hx => by rw [(List.mem_replicate.1 hx).2]; decide
theorem Dz.set {l : List Int} (h : Dz l) {x : Int} (hx : 0 ≤ x ∧ x < 65536) (i : Nat) : Dz (l.set i x) := fun y hy => (List.mem_or_eq_of_mem_set hy).elim (h y) fun e => by rw [e]; exact hx
theorem rtrim_l1_is (n : Nat) (a : List Int) (hd : Dz a) (ha : a.length ≤ 1000000) : ∀ (k fu : Nat), k < fu → k ≤ a.length → nZ (a.take k) = nZ a →
  ∃ m, rtrim_l1 n a fu (k : Int) = some (a, m) ∧ a.take m = nE (nZ a) ∧ m = (nE (nZ a)).length := by
 intro k
 have fin : ∀ k, k ≤ a.length → a.take k = nE (nZ a) → k = (nE (nZ a)).length := fun k h1 h2 => by rw [← h2, List.length_take]; omega
 induction k with
 | zero =>
  intro fu hf hk he
  cases fu with
  | zero => omega
  | succ fu =>
   have h0 : nZ a = 0 := by rw [← he]; rfl
   have h1 : a.take 0 = nE (nZ a) := by rw [h0, E_zero]; rfl
   exact ⟨0, by rw [rtrim_l1, ite_f (by simp), gd_pos (by omega), gd_pos (by omega)]; rfl, h1, fin 0 hk h1⟩
 | succ k ih =>
  intro fu hf hk he
  cases fu with
  | zero => omega
  | succ fu =>
   have e : (((k + 1 : Nat) : Int) - 1) = (k : Int) := by omega
   rw [rtrim_l1, ite_t (by simp <;> omega), e, gd_pos (okI64 (by omega) (by omega)), gd_pos (by omega), gd_pos (by omega), Int.toNat_natCast]
   have h1 := Z_take a k (by omega)
   by_cases hz : a.getD k 0 = 0
   ·rw [ite_t (by rw [hz]; rfl), gd_pos (okI64 (by omega) (by omega))]
    rw [hz] at h1
    exact ih fu (by omega) (by omega) (by rw [← he, h1]; rfl)
   ·rw [ite_f (by simp only [beq_eq_false_iff_ne]; exact hz), gd_pos (by omega), gd_pos (by omega)]
    have hl : (a.take (k + 1)).length = k + 1 := by rw [List.length_take]; omega
    have h2 : a.take (k + 1) = nE (nZ a) := by
     rw [← he]
     refine (E_Z (hd.take _) fun hn => ?_).symm
     rw [lastZ hn, hl, Nat.add_sub_cancel, List.getD_eq_getElem?_getD, List.getElem?_take_of_lt (by omega), ← List.getD_eq_getElem?_getD]
     exact hz
    exact ⟨k + 1, by rw [show (((k + 1 : Nat) : Int)).toNat = k + 1 by omega], h2, fin _ hk h2⟩
theorem rtrim_is {n : Nat} (hn : 18446744073709551616 ≤ n) {a : List Int} (hd : Dz a) (ha : a.length ≤ 1000000) : rtrim n a = some (a, (nE (nZ a)).length) ∧ (a.drop 0).take (nE (nZ a)).length = nE (nZ a) := by
 obtain ⟨m, h1, h2, h3⟩ := rtrim_l1_is n a hd ha a.length n (by omega) (Nat.le_refl _) (by rw [List.take_length])
 subst h3
 exact ⟨h1, h2⟩
theorem rOf_l1_is {n : Nat} (hn : 18446744073709551616 ≤ n) (a : List UInt32) (ha : a.length ≤ 100000) : ∀ (m i fu : Nat) (z : List Int), i + m = a.length → m < fu → z.length = 2 * i → Dz z → nZ z = nV (a.take i) →
  rOf_l1 n a fu z (i : Int) = some (nE (nV a), (nE (nV a)).length) := by
 intro m
 induction m with
 | zero =>
  intro i fu z hi hf hz hd he
  cases fu with
  | zero => omega
  | succ fu =>
   rw [List.take_of_length_le (by omega)] at he
   obtain ⟨h1, h2⟩ := rtrim_is hn hd (by omega)
   rw [rOf_l1, ite_f (by simp <;> omega), h1]
   simp only [Option.bind_some]
   rw [h2, he]
 | succ m ih =>
  intro i fu z hi hf hz hd he
  cases fu with
  | zero => omega
  | succ fu =>
   rw [rOf_l1, ite_t (by simp <;> omega), gd_pos (by omega), gd_pos (by omega), gd_pos (by decide), gd_pos (by omega), gd_pos (by omega), gd_pos (by decide), gd_pos (by unfold rmB; omega), gd_pos (okI64 (by omega) (by omega)), Int.toNat_natCast]
   have hX := u32_lt (a.getD i 0)
   have e1 : (a.getD i 0 % 65536).toNat = (a.getD i 0).toNat % 65536 := UInt32.toNat_mod _ _
   have e2 : (a.getD i 0 / 65536).toNat = (a.getD i 0).toNat / 65536 := UInt32.toNat_div _ _
   rw [e1, e2]
   refine ih (i + 1) fu _ (by omega) (by omega) (by simp <;> omega) (hd.app (by
    intro x hx
    rcases List.mem_cons.1 hx with rfl | hx
    ·omega
    ·rw [List.mem_singleton.1 hx]; omega)) ?_
   rw [Z_app, he, V_take', hz, Z_cons, Z_cons, Z_nil, Int.toNat_natCast, Int.toNat_natCast, Nat.pow_mul]
   have hdm := Nat.mod_add_div (a.getD i 0).toNat 65536
   show _ + 4294967296 ^ i * _ = _
   generalize (a.getD i 0).toNat % 65536 = x at *
   generalize (a.getD i 0).toNat / 65536 = y at *
   rw [← hdm]; rfl
theorem rOf_is {n : Nat} (hn : 18446744073709551616 ≤ n) {a : List UInt32} (ha : a.length ≤ 100000) : rOf n a = some (nE (nV a), (nE (nV a)).length) :=
 rOf_l1_is hn a ha a.length 0 n [] (by omega) (by omega) rfl Dz.nil rfl
theorem rdigit_is (n : Nat) (a : List Int) (i : Nat) : rdigit n a (i : Int) = some (a.getD i 0) := by
 unfold rdigit
 by_cases h : i < a.length
 ·rw [ite_t (by simp <;> omega), gd_pos (by omega), gd_pos (by omega), Int.toNat_natCast]
 ·rw [ite_f (by simp <;> omega), List.getD_eq_getElem?_getD, List.getElem?_eq_none (by omega)]; rfl
theorem rCmp_l1_is (n : Nat) (u v : List Int) (hu : Dz u) (hv : Dz v) (lu : Nat) (h1 : u.length = lu) (h2 : v.length = lu) (hlu : lu ≤ 1000000) : ∀ (j fu : Nat), j < fu → j ≤ lu → nZ (u.drop j) = nZ (v.drop j) →
  rCmp_l1 n u v fu ((j : Int) - 1) = some (cmpN (nZ u) (nZ v)) := by
 intro j
 induction j with
 | zero =>
  intro fu hf _ he
  cases fu with
  | zero => omega
  | succ fu => rw [rCmp_l1, ite_f (by simp), cmpN_eq (by simpa using he)]
 | succ j ih =>
  intro fu hf hj he
  cases fu with
  | zero => omega
  | succ fu =>
   have e : (((j + 1 : Nat) : Int) - 1) = (j : Int) := by omega
   have e1 := Z_drop u j (by omega)
   have e2 := Z_drop v j (by omega)
   have s1 := Z_split u j
   have s2 := Z_split v j
   have l1 := Z_lt (hu.take j)
   have l2 := Z_lt (hv.take j)
   have m1 : (u.take j).length = j := by simp; omega
   have m2 : (v.take j).length = j := by simp; omega
   have g1 := hu.get j
   have g2 := hv.get j
   rw [m1] at l1; rw [m2] at l2
   rw [e, rCmp_l1, ite_t (by simp), gd_pos (by omega), gd_pos (by omega), gd_pos (by omega), gd_pos (by omega)]
   simp only [Int.toNat_natCast]
   by_cases hne : u.getD j 0 = v.getD j 0
   ·rw [ite_f (by rw [hne]; simp), gd_pos (okI64 (by omega) (by omega))]
    exact ih fu (by omega) (by omega) (by rw [e1, e2, hne, he])
   ·rw [ite_t (by simp only [bne_iff_ne]; exact hne), gd_pos (by omega), gd_pos (by omega), gd_pos (by omega), gd_pos (by omega)]
    by_cases hlt : u.getD j 0 < v.getD j 0
    ·rw [ite_t (by simp only [decide_eq_true_eq]; exact hlt), cmpN_lt]
     rw [s1, s2]
     exact mul_pow_lt l1 (by omega)
    ·rw [ite_f (by simp only [decide_eq_false_iff_not]; exact hlt), cmpN_gt]
     rw [s1, s2]
     exact mul_pow_lt l2 (by omega)
theorem E_mono {x y : Nat} (h : x ≤ y) : (nE x).length ≤ (nE y).length := (E_len _ _).2 (Nat.lt_of_le_of_lt h ((E_len _ _).1 (Nat.le_refl _)))
theorem rCmp_is {n : Nat} (hn : 18446744073709551616 ≤ n) {x y : Nat} (ha : (nE x).length ≤ 1000000) (hb : (nE y).length ≤ 1000000) : rCmp n (nE x) (nE y) = some (cmpN x y) := by
 unfold rCmp
 by_cases h : (nE x).length < (nE y).length
 ·rw [ite_t (by simp <;> omega), ite_t (by simp <;> omega), cmpN_lt]
  refine Nat.lt_of_not_le fun h' => ?_
  have := E_mono h'; omega
 ·by_cases h' : (nE y).length < (nE x).length
  ·rw [ite_t (by simp <;> omega), ite_f (by simp <;> omega), cmpN_gt]
   refine Nat.lt_of_not_le fun h' => ?_
   have := E_mono h'; omega
  ·rw [ite_f (by simp <;> omega), gd_pos (okI64 (by omega) (by omega))]
   have hl : (nE y).length = (nE x).length := by omega
   have := rCmp_l1_is n (nE x) (nE y) (E_dz x) (E_dz y) (nE x).length rfl hl (by omega) (nE x).length n (by omega) (by omega) (by
    rw [List.drop_of_length_le (by omega), List.drop_of_length_le (by omega)])
   rw [Z_E, Z_E] at this
   exact this
theorem pow6 (i : Nat) : 65536 ^ (i + 1) = 65536 * 65536 ^ i := by rw [Nat.pow_succ, Nat.mul_comm]
theorem Z_take' (l : List Int) (i : Nat) : nZ (l.take (i + 1)) = nZ (l.take i) + 65536 ^ i * (l.getD i 0).toNat := by
 by_cases h : i < l.length
 ·exact Z_take l i h
 ·rw [List.take_of_length_le (by omega), List.take_of_length_le (by omega), List.getD_eq_getElem?_getD, List.getElem?_eq_none (by omega)]; simp
theorem tmodN (t : Nat) : Int.tmod (t : Int) 65536 = ((t % 65536 : Nat) : Int) := by rw [Int.tmod_eq_emod_of_nonneg (by omega)]; omega
theorem tdivN (t : Nat) : Int.tdiv (t : Int) 65536 = ((t / 65536 : Nat) : Int) := by rw [Int.tdiv_eq_ediv_of_nonneg (by omega)]; omega
theorem Dz.nat {l : List Int} (h : Dz l) (i : Nat) : l.getD i 0 = (((l.getD i 0).toNat : Nat) : Int) ∧ (l.getD i 0).toNat < 65536 := by
 have := h.get i; omega
theorem trim_is {n : Nat} (hn : 18446744073709551616 ≤ n) {a : List Int} (hd : Dz a) (ha : a.length ≤ 1000000) : ((rtrim n a).bind fun r => some (((a.drop 0).take r.2), r.2)) = some (nE (nZ a), (nE (nZ a)).length) := by
 obtain ⟨h1, h2⟩ := rtrim_is hn hd ha
 rw [h1]
 simp only [Option.bind_some]
 rw [h2]
theorem rAdd_l1_is {n : Nat} (hn : 18446744073709551616 ≤ n) (a b : List Int) (hda : Dz a) (hdb : Dz b) (ha : a.length ≤ 900000) (hb : b.length ≤ 900000) : ∀ (m i fu : Nat) (z : List Int) (c : Nat), max a.length b.length + 1 ≤ i + m → i ≤ max a.length b.length + 1 → m < fu → z.length = i → Dz z → c ≤ 1 → (max a.length b.length < i → c = 0) → nZ z + 65536 ^ i * c = nZ (a.take i) + nZ (b.take i) →
  rAdd_l1 n a b fu z (c : Int) (i : Int) = some (nE (nZ a + nZ b), (nE (nZ a + nZ b)).length) := by
 intro m
 induction m with
 | zero =>
  intro i fu z c h1 h2 hf hz hd hc hc0 he
  cases fu with
  | zero => omega
  | succ fu =>
   have h0 := hc0 (by omega)
   subst h0
   rw [rAdd_l1, ite_f (by simp <;> omega), ite_f (by simp <;> omega), ite_f (by simp)]
   rw [List.take_of_length_le (by omega), List.take_of_length_le (by omega)] at he
   rw [trim_is hn hd (by omega), show nZ z = nZ a + nZ b by omega]
 | succ m ih =>
  intro i fu z c h1 h2 hf hz hd hc hc0 he
  cases fu with
  | zero => omega
  | succ fu =>
   obtain ⟨ea, la⟩ := hda.nat i
   obtain ⟨eb, lb⟩ := hdb.nat i
   have body : i ≤ max a.length b.length → ((rdigit n a (i : Int)).bind fun r27_3 =>
     gd (okI .i64 ((c : Int) + r27_3)) <|
     (rdigit n b (i : Int)).bind fun r31_3 =>
     gd (okI .i64 (((c : Int) + r27_3) + r31_3)) <|
     gd ((65536 : Int) ≠ 0) <|
     gd (rmB (z.length + 1) 8) <|
     gd ((65536 : Int) ≠ 0) <|
     gd (okI .i64 (Int.tdiv (((c : Int) + r27_3) + r31_3) 65536)) <|
     gd (okI .i64 ((i : Int) + 1)) <|
     (rAdd_l1 n a b fu) (z ++ [(Int.tmod (((c : Int) + r27_3) + r31_3) 65536)]) (Int.tdiv (((c : Int) + r27_3) + r31_3) 65536) ((i : Int) + 1)) = some (nE (nZ a + nZ b), (nE (nZ a + nZ b)).length) := by
    intro hi
    rw [rdigit_is, rdigit_is, Option.bind_some, Option.bind_some, ea, eb, show (c : Int) + (((a.getD i 0).toNat : Nat) : Int) + (((b.getD i 0).toNat : Nat) : Int) = ((c + (a.getD i 0).toNat + (b.getD i 0).toNat : Nat) : Int) by omega, tmodN, tdivN]
    rw [gd_pos (okI64 (by omega) (by omega)), gd_pos (okI64 (by omega) (by omega)), gd_pos (by decide), gd_pos (by unfold rmB; omega), gd_pos (by decide), gd_pos (okI64 (by omega) (by omega)), gd_pos (okI64 (by omega) (by omega))]
    refine ih (i + 1) fu _ _ (by omega) (by omega) (by omega) (by rw [List.length_append, hz]; rfl) (hd.app (Dz.one ⟨by omega, by omega⟩)) (by omega) ?_ ?_
    ·intro hgt
     have e1 : (a.getD i 0) = 0 := by rw [List.getD_eq_getElem?_getD, List.getElem?_eq_none (by omega)]; rfl
     have e2 : (b.getD i 0) = 0 := by rw [List.getD_eq_getElem?_getD, List.getElem?_eq_none (by omega)]; rfl
     rw [e1, e2]
     show (c + 0 + 0) / 65536 = 0
     omega
    ·rw [Z_take', Z_take', Z_app, Z_cons, Z_nil, hz, pow6, Int.toNat_natCast]
     have hdm := Nat.mod_add_div (c + (a.getD i 0).toNat + (b.getD i 0).toNat) 65536
     generalize (c + (a.getD i 0).toNat + (b.getD i 0).toNat) % 65536 = x at *
     generalize (c + (a.getD i 0).toNat + (b.getD i 0).toNat) / 65536 = y at *
     generalize (a.getD i 0).toNat = f at *
     generalize (b.getD i 0).toNat = g at *
     generalize 65536 ^ i = p at *
     clear ih hc0
     have : p * (x + 65536 * y) = p * (c + f + g) := by rw [hdm]
     grind
   rw [rAdd_l1]
   by_cases k1 : i < a.length
   ·rw [ite_t (by simp <;> omega)]; exact body (by omega)
   ·rw [ite_f (by simp <;> omega)]
    by_cases k2 : i < b.length
    ·rw [ite_t (by simp <;> omega)]; exact body (by omega)
    ·rw [ite_f (by simp <;> omega)]
     by_cases k3 : 0 < c
     ·rw [ite_t (by simp <;> omega)]; exact body (Nat.le_of_not_lt fun h => by have := hc0 h; omega)
     ·rw [ite_f (by simp <;> omega)]
      rw [List.take_of_length_le (by omega), List.take_of_length_le (by omega), show c = 0 by omega, Nat.mul_zero, Nat.add_zero] at he
      rw [trim_is hn hd (by omega), he]
def Nzz (l : List Int) (i : Nat) : Prop := ∀ k, i ≤ k → l.getD k 0 = 0
theorem getD_repZ (n k : Nat) : (List.replicate n (0 : Int)).getD k 0 = 0 := by
 rw [List.getD_eq_getElem?_getD, List.getElem?_replicate]; split <;> rfl
theorem Nzz.set {l : List Int} {i : Nat} (h : Nzz l i) (x : Int) : Nzz (l.set i x) (i + 1) := by
 intro k hk
 rw [getD_set_ne _ _ (by omega)]; exact h k (by omega)
theorem Nzz.Z_set {l : List Int} {i : Nat} (h : Nzz l i) (x : Int) (hi : i < l.length) : nZ (l.set i x) = nZ l + 65536 ^ i * x.toNat := by
 have := Go.Sx.Z_set l i x hi
 rw [h i (by omega)] at this
 simpa using this
theorem rMul_l2_is (n : Nat) (a b : List Int) (hda : Dz a) (hdb : Dz b) (ha : a.length ≤ 900000) (hb : b.length ≤ 90000) (i : Nat) (hi : i < a.length) (K : List Int → Int → Option (List Int × Nat)) (v0 : Nat) :
  ∀ (m k fu : Nat) (w : List Int) (c : Nat), k + m = b.length → m < fu → w.length = a.length + b.length → Dz w → Nzz w (i + b.length) → nZ w + 65536 ^ (i + k) * c = v0 + 65536 ^ i * ((a.getD i 0).toNat * nZ (b.take k)) → c < 65536 →
  ∃ w' : List Int, w'.length = a.length + b.length ∧ Dz w' ∧ Nzz w' (i + 1 + b.length) ∧ nZ w' = v0 + 65536 ^ i * ((a.getD i 0).toNat * nZ b) ∧ rMul_l2 n a b (i : Int) K fu w (c : Int) (k : Int) = K w' ((i + 1 : Nat) : Int) := by
 intro m
 induction m with
 | zero =>
  intro k fu w c hk hf hw hd hz hv hc
  cases fu with
  | zero => omega
  | succ fu =>
   refine ⟨w.set (i + b.length) (c : Int), by rw [List.length_set]; exact hw, hd.set ⟨by omega, by omega⟩ _, ?_, ?_, ?_⟩
   ·have := hz.set (c : Int)
    rwa [show i + b.length + 1 = i + 1 + b.length by omega] at this
   ·rw [hz.Z_set _ (by omega), Int.toNat_natCast]
    rwa [List.take_of_length_le (by omega), show k = b.length by omega] at hv
   ·rw [rMul_l2, ite_f (by simp <;> omega), gd_pos (okI64 (by omega) (by omega)), gd_pos (by omega), gd_pos (by omega), gd_pos (okI64 (by omega) (by omega))]
    rw [show ((i : Int) + (b.length : Nat)).toNat = i + b.length by omega]; rfl
 | succ m ih =>
  intro k fu w c hk hf hw hd hz hv hc
  cases fu with
  | zero => omega
  | succ fu =>
   have e1 : ((i : Int) + (k : Nat)).toNat = i + k := by omega
   obtain ⟨ea, la⟩ := hda.nat i
   obtain ⟨eb, lb⟩ := hdb.nat k
   obtain ⟨ew, lw⟩ := hd.nat (i + k)
   have hAB : (a.getD i 0).toNat * (b.getD k 0).toNat ≤ 65535 * 65535 := Nat.mul_le_mul (by omega) (by omega)
   have hV := Z_set w (i + k) (((c + (a.getD i 0).toNat * (b.getD k 0).toNat + (w.getD (i + k) 0).toNat) % 65536 : Nat) : Int) (by omega)
   rw [rMul_l2, ite_t (by simp <;> omega)]
   rw [e1, Int.toNat_natCast, Int.toNat_natCast, ea, eb, ew, ← Int.natCast_mul]
   generalize (a.getD i 0).toNat = x at *
   generalize hy : (b.getD k 0).toNat = y at *
   generalize (w.getD (i + k) 0).toNat = f at *
   rw [show (c : Int) + ((x * y : Nat) : Int) = ((c + x * y : Nat) : Int) by omega, show ((c + x * y : Nat) : Int) + (f : Int) = ((c + x * y + f : Nat) : Int) by omega, tmodN, tdivN]
   rw [gd_pos (by omega), gd_pos (by omega), gd_pos (by omega), gd_pos (by omega), gd_pos (okI64 (by omega) (by omega)), gd_pos (okI64 (by omega) (by omega)), gd_pos (okI64 (by omega) (by omega)), gd_pos (by omega), gd_pos (by omega), gd_pos (okI64 (by omega) (by omega)), gd_pos (okI64 (by omega) (by omega)), gd_pos (by decide), gd_pos (by omega), gd_pos (by omega), gd_pos (by decide), gd_pos (okI64 (by omega) (by omega)), gd_pos (okI64 (by omega) (by omega))]
   refine ih (k + 1) fu _ _ (by omega) (by omega) (by rw [List.length_set]; exact hw) (hd.set ⟨by omega, by omega⟩ _) ?_ ?_ (by omega)
   ·intro q hq
    rw [getD_set_ne _ _ (by omega)]; exact hz q hq
   ·rw [Z_take', show i + (k + 1) = (i + k) + 1 by omega, pow6, hy]
    rw [Int.toNat_natCast] at hV
    rw [Nat.pow_add] at *
    have hdm := Nat.mod_add_div (c + x * y + f) 65536
    generalize (c + x * y + f) % 65536 = s at *
    generalize (c + x * y + f) / 65536 = t at *
    generalize 65536 ^ i = p at *
    generalize 65536 ^ k = q at *
    clear hAB ih
    have : p * q * (s + 65536 * t) = p * q * (c + x * y + f) := by rw [hdm]
    grind
theorem rMul_l1_is {n : Nat} (hn : 18446744073709551616 ≤ n) (a b : List Int) (hda : Dz a) (hdb : Dz b) (ha : a.length ≤ 900000) (hb : b.length ≤ 90000) :
  ∀ (m i fu : Nat) (w : List Int), i + m = a.length → m < fu → w.length = a.length + b.length → Dz w → Nzz w (i + b.length) → nZ w = nZ (a.take i) * nZ b →
  rMul_l1 n a b fu w (i : Int) = some (nE (nZ a * nZ b), (nE (nZ a * nZ b)).length) := by
 intro m
 induction m with
 | zero =>
  intro i fu w hi hf hw hd hz hv
  cases fu with
  | zero => omega
  | succ fu =>
   rw [List.take_of_length_le (by omega)] at hv
   rw [rMul_l1, ite_f (by simp <;> omega), trim_is hn hd (by omega), hv]
 | succ m ih =>
  intro i fu w hi hf hw hd hz hv
  cases fu with
  | zero => omega
  | succ fu =>
   rw [rMul_l1, ite_t (by simp <;> omega)]
   obtain ⟨w', h1, hd', h2, h3, h4⟩ := rMul_l2_is n a b hda hdb ha hb i (by omega) (rMul_l1 n a b fu) (nZ w) b.length 0 n w 0 (by omega) (by omega) hw hd hz (by simp [Z_nil]) (by decide)
   have h4' : rMul_l2 n a b (i : Int) (rMul_l1 n a b fu) n w 0 0 = _ := h4
   rw [h4']
   refine ih (i + 1) fu w' (by omega) (by omega) h1 hd' h2 ?_
   rw [h3, hv, Z_take']; grind
theorem rMul_is' {n : Nat} (hn : 18446744073709551616 ≤ n) {a b : List Int} (hda : Dz a) (hdb : Dz b) (ha : a.length ≤ 90000) (hb : b.length ≤ 90000) : rMul n a b = some (nE (nZ a * nZ b), (nE (nZ a * nZ b)).length) := by
 unfold rMul
 rw [gd_pos (okI64 (by omega) (by omega)), gd_pos (by omega), gd_pos (by trivial), gd_pos (by unfold rmB; omega)]
 refine rMul_l1_is hn a b hda hdb (by omega) hb a.length 0 n _ (by omega) (by omega) (by simp <;> omega) (Dz.rep _) ?_ (by simp [Z_rep, Z_nil])
 intro k _
 exact getD_repZ _ _
theorem E_last {y : Nat} (hy : y ≠ 0) : (nE y).length ≠ 0 ∧ ((nE y).getD ((nE y).length - 1) 0).toNat ≠ 0 := by
 have h1 : (nE y).length ≠ 0 := fun h => by
  have := (E_len y 0).1 (by omega)
  simp at this; omega
 refine ⟨h1, fun h => ?_⟩
 have h2 := zpos h1
 rw [h, Z_E] at h2
 have h3 := Z_lt ((E_dz y).take ((nE y).length - 1))
 rw [List.length_take, Nat.min_eq_left (by omega)] at h3
 have := (E_len y ((nE y).length - 1)).2 (by omega)
 omega
theorem E_one {d : Nat} (h : d < 65536) (h0 : d ≠ 0) : nE d = [(d : Int)] := by
 have := E_Z (l := [(d : Int)]) (Dz.one ⟨by omega, by omega⟩) (by simp; omega)
 rwa [show nZ [(d : Int)] = d by rw [Z_cons, Z_nil, Int.toNat_natCast]; omega] at this
theorem shr32_is (x : UInt32) (k : Nat) (h : k < 32) : (shr32 x (k : Int)).toNat = x.toNat / 2 ^ k := by
 unfold shr32
 rw [if_pos (by omega), Int.toNat_natCast, UInt32.toNat_shiftRight]
 have : (UInt32.ofNat k).toNat % 32 = k := by simp; omega
 rw [this, Nat.shiftRight_eq_div_pow]
theorem ofInt32 (t : Int) : (UInt32.ofInt t).toNat = (t % 4294967296).toNat := by
 simp [UInt32.ofInt]; omega
theorem rTo_l1_is {n : Nat} (hn : 18446744073709551616 ≤ n) (v : Nat) (ha : (nE v).length ≤ 100000) : ∀ (m i fu : Nat) (w : List UInt32), (nE v).length ≤ 2 * i + m → m < fu → 2 * i ≤ (nE v).length + 1 → w.length = i → nV w = nZ ((nE v).take (2 * i)) → (∀ h : w ≠ [], w.getLast h ≠ 0 ∨ 2 * i < (nE v).length) →
  rTo_l1 n (nE v) fu w (2 * (i : Int)) = some (nD v) := by
 have hE := E_dz v
 intro m
 induction m using Nat.strongRecOn with
 | _ m ih =>
  intro i fu w hi hf h2 hw he hlast
  cases fu with
  | zero => omega
  | succ fu =>
   by_cases hlt : 2 * i < (nE v).length
   ·have g1 := hE.get (2 * i)
    have g2 := hE.get (2 * i + 1)
    have e0 : (2 * (i : Int)).toNat = 2 * i := by omega
    have e1 : (2 * (i : Int) + 1).toNat = 2 * i + 1 := by omega
    have k1 := Z_take (nE v) (2 * i) hlt
    rw [rTo_l1, ite_t (by simp <;> omega), gd_pos (by omega), gd_pos (by omega), gd_pos (okI64 (by omega) (by omega)), e0, e1]
    by_cases hlt2 : 2 * i + 1 < (nE v).length
    ·have k2 := Z_take (nE v) (2 * i + 1) hlt2
     rw [ite_t (by simp <;> omega), gd_pos (okI64 (by omega) (by omega)), gd_pos (by omega), gd_pos (by omega)]
     unfold rTo_j1
     rw [gd_pos (by unfold rmB; omega), gd_pos (okI64 (by omega) (by omega)), show 2 * (i : Int) + 2 = 2 * ((i + 1 : Nat) : Int) by omega]
     have ex : (UInt32.ofInt ((nE v).getD (2 * i) 0) + UInt32.ofInt ((nE v).getD (2 * i + 1) 0) * 65536).toNat = ((nE v).getD (2 * i) 0).toNat + 65536 * ((nE v).getD (2 * i + 1) 0).toNat := by
      rw [UInt32.toNat_add, UInt32.toNat_mul, ofInt32, ofInt32]
      show (_ + _ * 65536 % _) % _ = _
      omega
     refine ih (m - 1) (by omega) (i + 1) fu _ (by omega) (by omega) (by omega) (by simp <;> omega) ?_ ?_
     ·rw [V_app, V_cons, V_nil, ex, he, show 2 * (i + 1) = 2 * i + 1 + 1 by omega, k2, k1, hw, Nat.pow_succ, Nat.pow_mul]
      show _ + 4294967296 ^ i * _ = _ + 4294967296 ^ i * _ + 4294967296 ^ i * 65536 * _
      generalize 4294967296 ^ i = p
      grind
     ·intro _
      by_cases h3 : 2 * (i + 1) < (nE v).length
      ·exact .inr h3
      ·left
       rw [List.getLast_concat]
       intro h0
       have h0 := ex.symm.trans (congrArg UInt32.toNat h0)
       have hv0 : nE v ≠ [] := by intro h; rw [h] at hlt; simp at hlt
       have hv1 : v ≠ 0 := by rintro rfl; exact hv0 E_zero
       have h5 : (nE v).getD (2 * i + 1) 0 = 0 := by
        rw [UInt32.toNat_zero] at h0; omega
       have h6 := zpos (l := nE v) (by omega)
       rw [Z_E, show (nE v).length - 1 = 2 * i + 1 by omega, h5] at h6
       have h7 := Z_lt (hE.take (2 * i + 1))
       rw [List.length_take, Nat.min_eq_left (by omega)] at h7
       have := (E_len v (2 * i + 1)).2 (by simp at h6; omega)
       omega
    ·rw [ite_f (by simp <;> omega)]
     unfold rTo_j1
     rw [gd_pos (by unfold rmB; omega), gd_pos (okI64 (by omega) (by omega)), show 2 * (i : Int) + 2 = 2 * ((i + 1 : Nat) : Int) by omega]
     have ex : (UInt32.ofInt ((nE v).getD (2 * i) 0)).toNat = ((nE v).getD (2 * i) 0).toNat := by
      rw [ofInt32]; omega
     refine ih (m - 1) (by omega) (i + 1) fu _ (by omega) (by omega) (by omega) (by simp <;> omega) ?_ ?_
     ·rw [V_app, V_cons, V_nil, ex, he, List.take_of_length_le (l := nE v) (i := 2 * (i + 1)) (by omega), hw]
      rw [List.take_of_length_le (l := nE v) (i := 2 * i + 1) (by omega), Nat.pow_mul] at k1
      rw [k1]
      show _ + 4294967296 ^ i * _ = _ + 4294967296 ^ i * _
      simp
     ·intro _
      left
      rw [List.getLast_concat]
      intro h0
      have h0 := ex.symm.trans (congrArg UInt32.toNat h0)
      have h5 : (nE v).getD (2 * i) 0 = 0 := by
       rw [UInt32.toNat_zero] at h0; omega
      have h6 := zpos (l := nE v) (by omega)
      rw [Z_E, show (nE v).length - 1 = 2 * i by omega, h5] at h6
      have h7 := Z_lt (hE.take (2 * i))
      rw [List.length_take, Nat.min_eq_left (by omega)] at h7
      have := (E_len v (2 * i)).2 (by simp at h6; omega)
      omega
   ·rw [rTo_l1, ite_f (by simp <;> omega)]
    rw [List.take_of_length_le (by omega), Z_E] at he
    rw [← he, D_V (fun h => (hlast h).elim id (fun h' => absurd h' hlt))]
theorem rTo_is {n : Nat} (hn : 18446744073709551616 ≤ n) {v : Nat} (ha : (nE v).length ≤ 100000) : rTo n (nE v) = some (nD v) :=
 rTo_l1_is hn v ha (nE v).length 0 n [] (by omega) (by omega) (by omega) rfl rfl (fun h => absurd rfl h)
end Go.Sx
end
section
namespace Go.Sx
open Go Go.RowKit Go.Ch Go.Proofs.YtiojofjllkhbhaaGreat
def vJ (s : Int) (l : List UInt8) : Int := l.foldl (fun a x => a * 256 + (x.toNat : Int)) s
theorem vJ_nil (s : Int) : vJ s [] = s := rfl
theorem vJ_cons (s : Int) (x : UInt8) (l : List UInt8) : vJ s (x :: l) = vJ (s * 256 + (x.toNat : Int)) l := rfl
theorem vJ_snoc (s : Int) (l : List UInt8) (x : UInt8) : vJ s (l ++ [x]) = vJ s l * 256 + (x.toNat : Int) := by simp [vJ]
def sg (l : List UInt8) : Int := if 128 ≤ (l.getD 0 0).toNat then -1 else 0
def val8 (l : List UInt8) : Int := vJ (sg l) l
def spare (a : List UInt8) : Bool := ((a.getD 0 0).toNat == 0 && decide ((a.getD 1 0).toNat < 128)) || ((a.getD 0 0).toNat == 255 && decide (128 ≤ (a.getD 1 0).toNat))
theorem u8eq (x : UInt8) (k : Nat) (hk : k < 256) : (x == UInt8.ofNat k) = (x.toNat == k) := by
 rw [Bool.eq_iff_iff]
 simp only [beq_iff_eq, ← UInt8.toNat_inj]
 have : (UInt8.ofNat k).toNat = k := by simp; omega
 rw [this]
theorem pspare_is (n : Nat) {a : List UInt8} (h : 2 ≤ a.length) : pspare n a = some (spare a) := by
 unfold pspare spare
 have e0 : ((a.getD 0 0) == 0) = ((a.getD 0 0).toNat == 0) := u8eq _ 0 (by decide)
 have e1 : ((a.getD 0 0) == 255) = ((a.getD 0 0).toNat == 255) := u8eq _ 255 (by decide)
 have e2 : (decide ((a.getD 1 0) < (128 : UInt8))) = decide ((a.getD 1 0).toNat < 128) := by rw [Bool.eq_iff_iff]; simp only [decide_eq_true_eq]; exact UInt8.lt_iff_toNat_lt
 have e3 : (decide ((128 : UInt8) ≤ (a.getD 1 0))) = decide (128 ≤ (a.getD 1 0).toNat) := by rw [Bool.eq_iff_iff]; simp only [decide_eq_true_eq]; exact UInt8.le_iff_toNat_le
 rw [e0, e1, e2, e3]
 simp only [gd_pos (show (0 : Int) ≤ 0 by omega), gd_pos (show (0 : Int) < ((a.length : Nat) : Int) by omega), gd_pos (show (0 : Int) ≤ 1 by omega), gd_pos (show (1 : Int) < ((a.length : Nat) : Int) by omega)]
 cases h1 : ((a.getD 0 0).toNat == 0) <;> cases h2 : ((a.getD 0 0).toNat == 255) <;> cases h3 : decide ((a.getD 1 0).toNat < 128) <;> simp_all
theorem val_spare {x y : UInt8} {l : List UInt8} (h : spare (x :: y :: l) = true) : val8 (x :: y :: l) = val8 (y :: l) := by
 unfold spare at h
 simp only [List.getD_cons_zero, List.getD_cons_succ, Bool.or_eq_true, Bool.and_eq_true, beq_iff_eq, decide_eq_true_eq] at h
 unfold val8 sg
 simp only [List.getD_cons_zero]
 rcases h with ⟨h1, h2⟩ | ⟨h1, h2⟩
 ·rw [if_neg (by omega), if_neg (by omega), vJ_cons, h1]; rfl
 ·rw [if_pos (by omega), if_pos (by omega), vJ_cons, h1]; rfl
theorem pInt_l2_is (n : Nat) (v : Int) : ∀ (m fu : Nat) (l : List UInt8), l.length = m + 1 → m < fu → l.length ≤ 8 → val8 l = v →
  ∃ r : List UInt8, pInt_l2 n fu l l.length = some r ∧ r ≠ [] ∧ r.length ≤ 8 ∧ val8 r = v ∧ (decide (2 ≤ r.length) && spare r) = false := by
 intro m
 induction m with
 | zero =>
  intro fu l hl hf h8 hv
  cases fu with
  | zero => omega
  | succ fu =>
   refine ⟨l, ?_, fun h => by rw [h] at hl; simp at hl, h8, hv, by simp; omega⟩
   rw [pInt_l2, ite_f (by simp <;> omega)]
   unfold pInt_j1
   rw [gd_pos (by omega)]
 | succ m ih =>
  intro fu l hl hf h8 hv
  cases fu with
  | zero => omega
  | succ fu =>
   match l, hl with
   | x :: y :: l, hl =>
    rw [pInt_l2, ite_t (by simp <;> omega), pspare_is n (by simp), Option.bind_some]
    cases hs : spare (x :: y :: l) with
    | true =>
     rw [ite_t rfl, gd_pos (by omega), gd_pos (by simp; omega)]
     have e : ((x :: y :: l).drop 1).take ((x :: y :: l).length - 1) = y :: l := by simp
     rw [e, show (x :: y :: l).length - 1 = (y :: l).length by simp]
     exact ih fu (y :: l) (by simpa using hl) (by omega) (by simp at h8 ⊢; omega) (by rw [← val_spare hs]; exact hv)
    | false =>
     refine ⟨x :: y :: l, ?_, by simp, h8, hv, by rw [hs, Bool.and_false]⟩
     rw [ite_f rfl]
     unfold pInt_j1
     rw [gd_pos (by omega)]
theorem ofInt8 (t : Int) : (UInt8.ofInt t).toNat = (t % 256).toNat := by
 simp [UInt8.ofInt]; omega
theorem shr_shr (a : Int) (j : Nat) : a / 2 ^ (8 * j) = a / 2 ^ (8 * (j + 1)) * 256 + (a / 2 ^ (8 * j) % 256) := by
 have e : (2 : Int) ^ (8 * (j + 1)) = 2 ^ (8 * j) * 256 := by rw [show 8 * (j + 1) = 8 * j + 8 by omega, Int.pow_add]; rfl
 rw [e, ← Int.ediv_ediv_of_nonneg (Int.le_of_lt (Int.pow_pos (by decide)))]
 omega
theorem pInt_l1_is {n : Nat} (hn : 100 ≤ n) (a : Int) (h1 : -9223372036854775808 ≤ a) (h2 : a < 9223372036854775808) : ∀ (j fu : Nat) (l : List UInt8), j < fu → l.length + j = 8 → vJ (a / 2 ^ 64) l = a / 2 ^ (8 * j) → (l = [] ∨ sg l = a / 2 ^ 64) →
  ∃ r : List UInt8, pInt_l1 n a fu l (8 * (j : Int) - 8) = some r ∧ r ≠ [] ∧ r.length ≤ 8 ∧ val8 r = a ∧ (decide (2 ≤ r.length) && spare r) = false := by
 intro j
 induction j with
 | zero =>
  intro fu l hf hl hv hs
  cases fu with
  | zero => omega
  | succ fu =>
   rw [pInt_l1, ite_f (by simp)]
   rcases hs with rfl | hs
   ·simp at hl
   ·refine pInt_l2_is n a 7 n l (by omega) (by omega) (by omega) ?_
    unfold val8
    rw [hs, hv]; simp
 | succ j ih =>
  intro fu l hf hl hv hs
  cases fu with
  | zero => omega
  | succ fu =>
   have e1 : 8 * ((j + 1 : Nat) : Int) - 8 = ((8 * j : Nat) : Int) := by omega
   have e2 : ((8 * j : Nat) : Int) - 8 = 8 * (j : Int) - 8 := by omega
   rw [e1, pInt_l1, ite_t (by simp <;> omega), gd_pos (by omega), gd_pos (by show _ ≤ ((64 : Nat) : Int); omega), gd_pos (by unfold rmB; omega), gd_pos (okI64 (by omega) (by omega)), Int.toNat_natCast, e2]
   have hb : (((UInt8.ofInt (a / 2 ^ (8 * j))).toNat : Nat) : Int) = a / 2 ^ (8 * j) % 256 := by rw [ofInt8]; omega
   refine ih fu _ (by omega) (by simp; omega) (by rw [vJ_snoc, hv, hb]; exact (shr_shr a j).symm) (.inr ?_)
   rcases hs with rfl | hs
   ·have hj : j = 7 := by simp at hl; omega
    subst hj
    unfold sg
    simp only [List.nil_append, List.getD_cons_zero]
    have := hb
    split <;> omega
   ·rw [← hs]
    unfold sg
    cases l with
    | nil =>
     unfold sg at hs
     simp at hs
     have hj : j = 7 := by simp at hl; omega
     subst hj
     simp only [List.nil_append, List.getD_cons_zero, List.getD_nil]
     have := hb
     split <;> simp <;> omega
    | cons x l => simp
theorem pInt_is {n : Nat} (hn : 100 ≤ n) {a : Int} (h1 : -9223372036854775808 ≤ a) (h2 : a < 9223372036854775808) :
  ∃ r : List UInt8, pInt n a = some r ∧ r ≠ [] ∧ r.length ≤ 8 ∧ val8 r = a ∧ (decide (2 ≤ r.length) && spare r) = false :=
 pInt_l1_is hn a h1 h2 8 n [] (by omega) rfl rfl (.inl rfl)
def nB (l : List UInt8) : Nat := vl 256 UInt8.toNat l.reverse
def dB (v : Nat) : List UInt8 := (dg 256 UInt8.ofNat v).reverse
theorem b_lt (x : UInt8) : x.toNat < 256 := x.toNat_lt
theorem b_of (x : Nat) (h : x < 256) : (UInt8.ofNat x).toNat = x := by simp; omega
theorem nB_dB (v : Nat) : nB (dB v) = v := by unfold nB dB; rw [List.reverse_reverse]; exact vl_dg _ _ _ (by decide) b_of v
theorem dB_len (v k : Nat) : (dB v).length ≤ k ↔ v < 256 ^ k := by unfold dB; rw [List.length_reverse]; exact dg_len _ _ (by decide) v k
theorem nB_lt (l : List UInt8) : nB l < 256 ^ l.length := by
 have := vl_lt 256 UInt8.toNat l.reverse fun x _ => b_lt x
 rwa [List.length_reverse] at this
theorem nB_nil : nB [] = 0 := rfl
theorem nB_cons (x : UInt8) (l : List UInt8) : nB (x :: l) = nB l + 256 ^ l.length * x.toNat := by
 unfold nB
 rw [List.reverse_cons, vl_app, List.length_reverse, vl_cons, vl_nil]; simp
theorem nB_inj : ∀ {a b : List UInt8}, a.length = b.length → nB a = nB b → a = b
 | [], [], _, _ => rfl
 | x :: a, y :: b, hl, h => by
  have hl' : a.length = b.length := by simpa using hl
  rw [nB_cons, nB_cons, hl'] at h
  have h1 := nB_lt a
  have h2 := nB_lt b
  rw [hl'] at h1
  have hp : 0 < 256 ^ b.length := Nat.pow_pos (by decide)
  have e1 : (nB a + 256 ^ b.length * x.toNat) % 256 ^ b.length = nB a := by rw [Nat.add_mul_mod_self_left, Nat.mod_eq_of_lt h1]
  have e2 : (nB b + 256 ^ b.length * y.toNat) % 256 ^ b.length = nB b := by rw [Nat.add_mul_mod_self_left, Nat.mod_eq_of_lt h2]
  have e3 : nB a = nB b := by rw [← e1, h, e2]
  have e4 : x.toNat = y.toNat := by
   rw [e3] at h
   exact Nat.eq_of_mul_eq_mul_left hp (by omega)
  rw [nB_inj hl' e3, UInt8.toNat_inj.1 e4]
 | [], _ :: _, hl, _ => by simp at hl
 | _ :: _, [], hl, _ => by simp at hl
theorem nB_set : ∀ (l : List UInt8) (i : Nat) (x : UInt8), i < l.length → nB (l.set (l.length - 1 - i) x) + 256 ^ i * (l.getD (l.length - 1 - i) 0).toNat = nB l + 256 ^ i * x.toNat
 | [], _, _, h => by simp at h
 | y :: t, i, x, h => by
  by_cases hi : i = t.length
  ·subst hi
   have e : (y :: t).length - 1 - t.length = 0 := by simp
   rw [e, List.set_cons_zero, nB_cons, nB_cons]; simp; omega
  ·have hi' : i < t.length := by simp at h; omega
   have e : (y :: t).length - 1 - i = (t.length - 1 - i) + 1 := by simp; omega
   have ih := nB_set t i x hi'
   rw [e, List.set_cons_succ, nB_cons, nB_cons, List.getD_cons_succ, List.length_set]; omega
theorem nB_rep (n : Nat) : nB (List.replicate n 0) = 0 := by
 unfold nB; rw [List.reverse_replicate]; exact vl_rep (z := (0 : UInt8)) 256 UInt8.toNat rfl n
theorem mod_step (v i : Nat) : v % 256 ^ (i + 1) = v % 256 ^ i + 256 ^ i * (v / 256 ^ i % 256) := Nat.mod_pow_succ
structure Wr (l : List UInt8) (n i v : Nat) : Prop where
 len : l.length = n
 z : ∀ k, k + i < n → l.getD k 0 = 0
 val : nB l = v % 256 ^ i
theorem Wr.start (n v : Nat) : Wr (List.replicate n 0) n 0 v := ⟨by simp, fun k _ => by rw [List.getD_eq_getElem?_getD, List.getElem?_replicate]; split <;> rfl, by rw [nB_rep]; simp [Nat.mod_one]⟩
theorem Wr.step {l : List UInt8} {n i v : Nat} (h : Wr l n i v) (hi : i < n) {x : UInt8} (hx : x.toNat = v / 256 ^ i % 256) : Wr (l.set (n - 1 - i) x) n (i + 1) v := by
 have hl := h.len
 have hs := nB_set l i x (by omega)
 rw [hl, h.z (n - 1 - i) (by omega), h.val] at hs
 refine ⟨by rw [List.length_set]; exact hl, fun k hk => by rw [getD_set_ne _ _ (by omega)]; exact h.z k (by omega), ?_⟩
 rw [mod_step, ← hx]
 simpa using hs
theorem limb_byte (v i : Nat) : v / 4294967296 ^ (i / 4) % 4294967296 / 2 ^ (8 * (i % 4)) % 256 = v / 256 ^ i % 256 := by
 have e1 : (4294967296 : Nat) ^ (i / 4) = 256 ^ (4 * (i / 4)) := by rw [Nat.pow_mul]
 have e2 : (2 : Nat) ^ (8 * (i % 4)) = 256 ^ (i % 4) := by rw [Nat.pow_mul]
 have e3 : (4294967296 : Nat) = 256 ^ (i % 4) * (256 * 256 ^ (3 - i % 4)) := by
  rw [show 256 * 256 ^ (3 - i % 4) = 256 ^ (4 - i % 4) by rw [Nat.mul_comm, ← Nat.pow_succ]; congr 1; omega, ← Nat.pow_add, show i % 4 + (4 - i % 4) = 4 by omega]
 rw [e1, e2]
 conv => lhs; rw [e3]
 rw [Nat.mod_mul_right_div_self, Nat.div_div_eq_div_mul, ← Nat.pow_add, Nat.mod_mul_right_mod, show 4 * (i / 4) + i % 4 = i by omega]
def bigL (v : Nat) : List UInt8 := if dB v = [] ∨ 128 ≤ ((dB v).getD 0 0).toNat then 0 :: dB v else dB v
theorem dB_of {r : List UInt8} (h : r = [] ∨ (r.getD 0 0).toNat ≠ 0) : dB (nB r) = r := by
 refine nB_inj ?_ (nB_dB _)
 have h1 := nB_lt r
 have h2 := (dB_len (nB r) r.length).2 h1
 refine Nat.le_antisymm h2 ?_
 cases r with
 | nil => simp
 | cons x t =>
  simp only [List.getD_cons_zero] at h
  have hx : x.toNat ≠ 0 := h.resolve_left (by simp)
  refine Nat.le_of_not_lt fun hlt => ?_
  have h3 := (dB_len (nB (x :: t)) t.length).1 (by simp at hlt; omega)
  rw [nB_cons] at h3
  have := Nat.le_mul_of_pos_right (256 ^ t.length) (show 0 < x.toNat by omega)
  omega
theorem big_of {r : List UInt8} (h0 : r ≠ []) (h1 : (r.getD 0 0).toNat < 128) (hs : (decide (2 ≤ r.length) && spare r) = false) : r = bigL (nB r) := by
 cases r with
 | nil => exact absurd rfl h0
 | cons x t =>
  simp only [List.getD_cons_zero] at h1
  unfold bigL
  by_cases hx : x.toNat = 0
  ·have hx0 : x = 0 := UInt8.toNat_inj.1 hx
   subst hx0
   have hn : nB (0 :: t) = nB t := by rw [nB_cons]; simp
   have ht : t = [] ∨ 128 ≤ (t.getD 0 0).toNat := by
    cases t with
    | nil => exact .inl rfl
    | cons y t =>
     right
     simp [spare] at hs
     simpa using hs
   have hd : dB (nB t) = t := dB_of (ht.imp id fun h => by omega)
   rw [hn, hd, if_pos ht]
  ·have hd : dB (nB (x :: t)) = x :: t := dB_of (.inr (by simpa using hx))
   rw [hd, if_neg (by simp; omega)]
theorem pBig_l1_is (n : Nat) (v : Nat) : ∀ (m fu : Nat) (l : List UInt8), l.length = m + 1 → m < fu → l.length ≤ 1000 → (l.getD 0 0).toNat < 128 → nB l = v → pBig_l1 n fu l l.length = some (bigL v, none) := by
 intro m
 induction m with
 | zero =>
  intro fu l hl hf h8 h128 hv
  cases fu with
  | zero => omega
  | succ fu =>
   rw [pBig_l1, ite_f (by simp <;> omega)]
   unfold pBig_j1
   rw [gd_pos (by omega), ← hv, ← big_of (fun h => by rw [h] at hl; simp at hl) h128 (by simp; omega)]
 | succ m ih =>
  intro fu l hl hf h8 h128 hv
  cases fu with
  | zero => omega
  | succ fu =>
   match l, hl with
   | x :: y :: l, hl =>
    rw [pBig_l1, ite_t (by simp <;> omega), pspare_is n (by simp), Option.bind_some]
    simp only [List.getD_cons_zero] at h128
    cases hs : spare (x :: y :: l) with
    | true =>
     have hx : x.toNat = 0 ∧ y.toNat < 128 := by
      simp only [spare, List.getD_cons_zero, List.getD_cons_succ, Bool.or_eq_true, Bool.and_eq_true, beq_iff_eq, decide_eq_true_eq] at hs
      omega
     rw [ite_t rfl, gd_pos (by omega), gd_pos (by simp; omega)]
     have e : ((x :: y :: l).drop 1).take ((x :: y :: l).length - 1) = y :: l := by simp
     rw [e, show (x :: y :: l).length - 1 = (y :: l).length by simp]
     refine ih fu (y :: l) (by simpa using hl) (by omega) (by simp at h8 ⊢; omega) (by simpa using hx.2) ?_
     rw [← hv, nB_cons x, hx.1]; simp
    | false =>
     rw [ite_f rfl]
     unfold pBig_j1
     rw [gd_pos (by omega), ← hv, ← big_of (by simp) (by simpa using h128) (by rw [hs, Bool.and_false])]
theorem rSize_is (n : Nat) {v : Nat} (hl : (nE v).length ≤ 100000) : rSize n (nE v) = some (((dB v).length : Nat) : Int) := by
 unfold rSize rSize_j1
 rw [gd_pos (okI64 (by omega) (by omega))]
 by_cases h0 : v = 0
 ·subst h0
  rw [E_zero, ite_f (by decide)]
  simp [dB, dg_zero]
 ·obtain ⟨h1, h2⟩ := E_last h0
  have hz := zpos h1
  rw [Z_E] at hz
  have hlt := Z_lt ((E_dz v).take ((nE v).length - 1))
  rw [List.length_take, Nat.min_eq_left (by omega)] at hlt
  obtain ⟨g1, g2⟩ := (E_dz v).get ((nE v).length - 1)
  have e1 : (((nE v).length : Nat) : Int) - 1 = (((nE v).length - 1 : Nat) : Int) := by omega
  rw [ite_t (by simp <;> omega), e1, gd_pos (okI64 (by omega) (by omega)), gd_pos (by omega), gd_pos (by omega), Int.toNat_natCast]
  obtain ⟨k, hk⟩ : ∃ k, (nE v).length = k + 1 := ⟨(nE v).length - 1, by omega⟩
  have hk' : (nE v).length - 1 = k := by omega
  rw [hk'] at hz hlt h2 g1 g2
  rw [hk, Nat.add_sub_cancel]
  have hp : (65536 : Nat) ^ k = 256 ^ (2 * k) := by rw [Nat.pow_mul]
  rw [hp] at hz hlt
  generalize hx : (nE v).getD k 0 = x at *
  have hpp : 0 < 256 ^ (2 * k) := Nat.pow_pos (by decide)
  have q1 : 256 ^ (2 * k + 1) = 256 ^ (2 * k) * 256 := Nat.pow_succ ..
  have q2 : 256 ^ (2 * k + 2) = 256 ^ (2 * k) * 65536 := by rw [Nat.pow_add]
  by_cases h256 : x < 256
  ·rw [ite_t (by simpa using h256), gd_pos (okI64 (by omega) (by omega))]
   have a1 : (dB v).length ≤ 2 * k + 1 := by
    rw [dB_len, q1, hz]
    have := Nat.mul_le_mul_left (256 ^ (2 * k)) (show x.toNat + 1 ≤ 256 by omega)
    rw [Nat.mul_add] at this; omega
   have a2 : ¬ (dB v).length ≤ 2 * k := by
    rw [dB_len, hz]
    have := Nat.le_mul_of_pos_right (256 ^ (2 * k)) (show 0 < x.toNat by omega)
    omega
   congr 1; omega
  ·rw [ite_f (by simpa using h256)]
   have a1 : (dB v).length ≤ 2 * k + 2 := by
    rw [dB_len, q2, hz]
    have := Nat.mul_le_mul_left (256 ^ (2 * k)) (show x.toNat + 1 ≤ 65536 by omega)
    rw [Nat.mul_add] at this; omega
   have a2 : ¬ (dB v).length ≤ 2 * k + 1 := by
    rw [dB_len, hz, q1]
    have := Nat.mul_le_mul_left (256 ^ (2 * k)) (show 256 ≤ x.toNat by omega)
    omega
   congr 1; omega
theorem digit_byte (v i : Nat) : (if i % 2 = 1 then v / 65536 ^ (i / 2) % 65536 / 256 else v / 65536 ^ (i / 2) % 65536) % 256 = v / 256 ^ i % 256 := by
 have e1 : (65536 : Nat) ^ (i / 2) = 256 ^ (2 * (i / 2)) := by rw [Nat.pow_mul]
 rw [e1]
 by_cases h : i % 2 = 1
 ·rw [if_pos h]
  have e2 : (256 : Nat) ^ i = 256 ^ (2 * (i / 2)) * 256 := by rw [← Nat.pow_succ]; congr 1; omega
  rw [e2, ← Nat.div_div_eq_div_mul]; omega
 ·rw [if_neg h]
  have e2 : (256 : Nat) ^ i = 256 ^ (2 * (i / 2)) := by congr 1; omega
  rw [e2]; omega
theorem rWrite_l1_is (n : Nat) (v s : Nat) (hl : (nE v).length ≤ 100000) (hs : s ≤ 2 * (nE v).length) : ∀ (m i fu : Nat) (l : List UInt8), i + m = s → m < fu → Wr l s i v →
  ∃ r, rWrite_l1 n (nE v) (s : Int) fu l (i : Int) = some (r, s, true) ∧ r.length = s ∧ nB r = v % 256 ^ s := by
 intro m
 induction m with
 | zero =>
  intro i fu l hi hf hw
  cases fu with
  | zero => omega
  | succ fu =>
   obtain rfl : i = s := by omega
   exact ⟨l, by rw [rWrite_l1, ite_f (by simp)]; simp, hw.len, hw.val⟩
 | succ m ih =>
  intro i fu l hi hf hw
  cases fu with
  | zero => omega
  | succ fu =>
   have t1 : Int.tdiv (i : Int) 2 = ((i / 2 : Nat) : Int) := by rw [Int.tdiv_eq_ediv_of_nonneg (by omega)]; omega
   have t2 : Int.tmod (i : Int) 2 = ((i % 2 : Nat) : Int) := by rw [Int.tmod_eq_emod_of_nonneg (by omega)]; omega
   have e1 : ((s : Int) - 1 - (i : Int)).toNat = s - 1 - i := by omega
   have hE := E_get v (i / 2)
   have key : ∀ x : Nat, x % 256 = v / 256 ^ i % 256 → x < 65536 → ∃ r, rWrite_j1 n (nE v) (s : Int) l (i : Int) (rWrite_l1 n (nE v) (s : Int) fu) (x : Int) = some (r, s, true) ∧ r.length = s ∧ nB r = v % 256 ^ s := by
    intro x hx hx2
    unfold rWrite_j1
    have t3 : Int.tmod (x : Int) 256 = ((x % 256 : Nat) : Int) := by rw [Int.tmod_eq_emod_of_nonneg (by omega)]; omega
    rw [gd_pos (okI64 (by omega) (by omega)), gd_pos (okI64 (by omega) (by omega)), gd_pos (by decide), gd_pos (by omega), gd_pos (by rw [Int.toNat_natCast]; omega), gd_pos (okI64 (by omega) (by omega)), t3, e1]
    refine ih (i + 1) fu _ (by omega) (by omega) (hw.step (by omega) ?_)
    rw [← hx]; simp [UInt8.ofInt]; omega
   rw [rWrite_l1, ite_t (by simp <;> omega), gd_pos (by decide), t1, t2, gd_pos (okI64 (by omega) (by omega)), ite_t (by simp <;> omega), gd_pos (by decide), gd_pos (okI64 (by omega) (by omega)), gd_pos (by omega), gd_pos (by omega), gd_pos (by decide), Int.toNat_natCast, hE]
   have hb := digit_byte v i
   have hlt : v / 65536 ^ (i / 2) % 65536 < 65536 := Nat.mod_lt _ (by decide)
   by_cases h : i % 2 = 1
   ·rw [if_pos h] at hb
    have t4 : Int.tdiv ((v / 65536 ^ (i / 2) % 65536 : Nat) : Int) 256 = ((v / 65536 ^ (i / 2) % 65536 / 256 : Nat) : Int) := by rw [Int.tdiv_eq_ediv_of_nonneg (by omega)]; omega
    rw [ite_t (by simp only [beq_iff_eq]; omega), t4]
    generalize v / 65536 ^ (i / 2) % 65536 = q at *
    rw [gd_pos (by decide), gd_pos (okI64 (by omega) (by omega))]
    exact key (q / 256) hb (by omega)
   ·rw [if_neg h] at hb
    rw [ite_f (by simp only [beq_eq_false_iff_ne]; omega)]
    exact key _ hb hlt
theorem rBig_is {n : Nat} (hn : 18446744073709551616 ≤ n) {a : List UInt32} (ha : a.length ≤ 10000) : rBig n a = some (bigL (nV a), (bigL (nV a)).length) := by
 unfold rBig
 have hlt := V_lt a
 have hlE : (nE (nV a)).length ≤ 2 * a.length := by
  rw [E_len, Nat.pow_mul]
  exact hlt
 have hsz : (dB (nV a)).length ≤ 2 * (nE (nV a)).length := by
  rw [dB_len, Nat.pow_mul]; exact (E_len (nV a) _).1 (Nat.le_refl _)
 rw [rOf_is hn (by omega), Option.bind_some]
 try dsimp only
 rw [rSize_is n (by omega), Option.bind_some]
 obtain ⟨r, h1, h2, h3⟩ := rWrite_l1_is n (nV a) (dB (nV a)).length (by omega) hsz (dB (nV a)).length 0 n _ (by omega) (by omega) (Wr.start _ _)
 have hr : r = dB (nV a) := by
  refine nB_inj h2 ?_
  rw [h3, nB_dB, Nat.mod_eq_of_lt ((dB_len _ _).1 (Nat.le_refl _))]
 have hw : rWrite n (nE (nV a)) (((dB (nV a)).length : Nat) : Int) = some (r, (dB (nV a)).length, true) := by
  unfold rWrite
  rw [ite_f (by simp <;> omega), rSize_is n (by omega), Option.bind_some, ite_f (by simp), gd_pos (by omega), gd_pos (by trivial), gd_pos (by unfold rmB; omega), Int.toNat_natCast]
  exact h1
 rw [hw, Option.bind_some]
 try dsimp only
 rw [hr]
 unfold bigL
 by_cases h0 : dB (nV a) = []
 ·rw [if_pos (.inl h0), h0, ite_t (by rfl), gd_pos (by decide)]; rfl
 ·have hl := List.length_pos_iff.2 h0
  rw [ite_f (by simp only [beq_eq_false_iff_ne]; omega), gd_pos (by omega), gd_pos (by omega)]
  by_cases h128 : 128 ≤ ((dB (nV a)).getD 0 0).toNat
  ·rw [ite_t (by simp only [decide_eq_true_eq, UInt8.le_iff_toNat_le]; exact h128), if_pos (.inr h128), gd_pos (by unfold rmB; omega)]; rfl
  ·rw [ite_f (by simp only [decide_eq_false_iff_not, UInt8.le_iff_toNat_le]; exact h128), if_neg (fun h => h.elim h0 h128)]
theorem D_len_dB (v : Nat) : (nD v).length = ((dB v).length + 3) / 4 := by
 have h : ∀ k, (nD v).length ≤ k ↔ (dB v).length ≤ 4 * k := fun k => by rw [D_len, dB_len, Nat.pow_mul]
 have h2 := (h (((dB v).length + 3) / 4)).2 (by omega)
 have h3 := (h (nD v).length).1 (Nat.le_refl _)
 omega
def NB : Nat := 4294967296 ^ 3
theorem NB_ok : 18446744073709551616 ≤ NB := by decide
def padB (k v : Nat) : List UInt8 := List.replicate (k - (dB v).length) 0 ++ dB v
theorem padB_len {k v : Nat} (h : v < 256 ^ k) : (padB k v).length = k := by
 have := (dB_len v k).2 h
 unfold padB; simp; omega
theorem nB_app0 (k : Nat) (l : List UInt8) : nB (List.replicate k 0 ++ l) = nB l := by
 induction k with
 | zero => rfl
 | succ k ih => rw [List.replicate_succ, List.cons_append, nB_cons, ih]; simp
theorem nB_padB (k v : Nat) : nB (padB k v) = v := by unfold padB; rw [nB_app0, nB_dB]
theorem eq_padB {k v : Nat} {l : List UInt8} (hl : l.length = k) (hv : nB l = v) : l = padB k v := by
 have hlt : v < 256 ^ k := by rw [← hv, ← hl]; exact nB_lt l
 exact nB_inj (by rw [hl, padB_len hlt]) (by rw [hv, nB_padB])
theorem pWrite_lk (n : Nat) (a : List UInt32) (v : Nat) (ha : (a.drop 0).take (nD v).length = nD v) (h64 : (nD v).length ≤ 64) (s : Nat) (hs : s ≤ 256) : ∀ (m i fu : Nat) (l : List UInt8), i + m = 4 * (nD v).length → m < fu → (i ≤ s → Wr l s i v) → (s ≤ i → Wr l s s v ∧ v % 256 ^ i = v % 256 ^ s) →
  pWrite_l1 n a (s : Int) (a, (nD v).length) fu l (i : Int) = some (if v < 256 ^ s then (padB s v, s, none) else ([], 0, some 1)) := by
 intro m
 induction m with
 | zero =>
  intro i fu l hi hf h1 h2
  cases fu with
  | zero => omega
  | succ fu =>
   have hvi : v % 256 ^ i = v := Nat.mod_eq_of_lt (by
    have := (D_len v (nD v).length).1 (Nat.le_refl _)
    rwa [show (4294967296 : Nat) = 256 ^ 4 from rfl, ← Nat.pow_mul, show 4 * (nD v).length = i by omega] at this)
   have fin : l.length = s ∧ nB l = v := by
    by_cases hle : i ≤ s
    ·have := h1 hle; exact ⟨this.len, by rw [this.val]; exact hvi⟩
    ·have := h2 (by omega); exact ⟨this.1.len, by rw [this.1.val, ← this.2]; exact hvi⟩
   have hlt : v < 256 ^ s := by rw [← fin.2, ← fin.1]; exact nB_lt l
   rw [pWrite_l1, ite_f (by simp <;> omega), if_pos hlt, Int.toNat_natCast, eq_padB fin.1 fin.2]
 | succ m ih =>
  intro i fu l hi hf h1 h2
  cases fu with
  | zero => omega
  | succ fu =>
   have t1 : Int.tdiv (i : Int) 4 = ((i / 4 : Nat) : Int) := by rw [Int.tdiv_eq_ediv_of_nonneg (by omega)]; omega
   have t2 : 8 * Int.tmod (i : Int) 4 = ((8 * (i % 4) : Nat) : Int) := by rw [Int.tmod_eq_emod_of_nonneg (by omega)]; omega
   have e1 : ((s : Int) - 1 - (i : Int)).toNat = s - 1 - i := by omega
   have e2 := shr32_is ((nD v).getD (i / 4) 0) (8 * (i % 4)) (by omega)
   have hb : ((shr32 ((nD v).getD (i / 4) 0) ((8 * (i % 4) : Nat) : Int)).toUInt8).toNat = v / 256 ^ i % 256 := by rw [UInt32.toNat_toUInt8, e2, D_get, ← limb_byte]
   rw [pWrite_l1, ite_t (by simp <;> omega), t1, t2, e1, gd_pos (by decide), gd_pos (okI64 (by omega) (by omega)), gd_pos (by omega), gd_pos (by omega), gd_pos (by decide), gd_pos (okI64 (by omega) (by omega)), gd_pos (by omega)]
   simp only [ha, Int.toNat_natCast]
   generalize (shr32 ((nD v).getD (i / 4) 0) ((8 * (i % 4) : Nat) : Int)).toUInt8 = x at hb
   by_cases hlt : i < s
   ·rw [ite_t (decide_eq_true (by omega)), gd_pos (okI64 (by omega) (by omega)), gd_pos (okI64 (by omega) (by omega)), gd_pos (by omega), gd_pos (by omega)]
    unfold pWrite_j1
    rw [gd_pos (okI64 (by omega) (by omega))]
    have hw := (h1 (by omega)).step hlt hb
    refine ih (i + 1) fu _ (by omega) (by omega) (fun _ => hw) (fun hge => ?_)
    obtain rfl : s = i + 1 := by omega
    exact ⟨hw, rfl⟩
   ·rw [ite_f (decide_eq_false (by omega))]
    by_cases hx : x = 0
    ·subst hx
     rw [ite_f (by simp)]
     unfold pWrite_j1
     rw [gd_pos (okI64 (by omega) (by omega))]
     have := h2 (by omega)
     refine ih (i + 1) fu l (by omega) (by omega) (fun hle => by omega) (fun _ => ⟨this.1, ?_⟩)
     rw [mod_step, ← hb, this.2]; simp
    ·rw [ite_t (by simpa using hx)]
     have hne : v / 256 ^ i % 256 ≠ 0 := by rw [← hb]; exact fun h => hx (UInt8.toNat_inj.1 (by rw [h]; rfl))
     have hge : 256 ^ s ≤ v := by
      have h3 : 256 ^ i ≤ v := Nat.le_of_not_lt fun h => hne (by rw [Nat.div_eq_of_lt h])
      exact Nat.le_trans (Nat.pow_le_pow_right (by decide) (by omega)) h3
     rw [if_neg (by omega)]
theorem pWrite_k {n : Nat} (hn : 18446744073709551616 ≤ n) {a : List UInt32} (ha : a.length ≤ 1000000) {s : Nat} (hs : s ≤ 256) :
  pWrite n a (s : Int) = some (if (nD (nV a)).length ≤ 64 then (if nV a < 256 ^ s then (padB s (nV a), s, none) else ([], 0, some 1)) else ([], 0, some 4)) := by
 unfold pWrite
 rw [ptrim_is hn ha, Option.bind_some]
 by_cases h : (nD (nV a)).length ≤ 64
 ·rw [ite_f (by simp <;> omega), ite_f (by simp <;> omega), ite_f (by simp <;> omega), gd_pos (by omega), gd_pos rfl, gd_pos (by unfold rmB; omega), gd_pos (okI64 (by omega) (by omega)), if_pos h]
  exact pWrite_lk n a (nV a) (tk ha) h s hs (4 * (nD (nV a)).length) 0 n _ (by omega) (by omega) (fun _ => Wr.start _ _) (fun h0 => by
   obtain rfl : s = 0 := by omega
   exact ⟨Wr.start _ _, rfl⟩)
 ·rw [ite_t (by simp <;> omega), if_neg h]
end Go.Sx
end
section
namespace Go.Sx
open Go Go.RowKit Go.Ch Go.Proofs.YtiojofjllkhbhaaGreat
theorem E2 (v : Nat) {k : Nat} (h : (nD v).length ≤ k) : (nE v).length ≤ 2 * k := by
 rw [E_len, Nat.pow_mul]; exact (D_len v k).1 h
theorem D_of_dB {v k : Nat} (h : (dB v).length ≤ k) : (nD v).length ≤ (k + 3) / 4 := by rw [D_len_dB]; omega
theorem ksize_l1_is {n : Nat} (hn : 18446744073709551616 ≤ n) {a : List UInt32} (ha : a.length ≤ 1000000) : ∀ (m i fu : Nat), i + m = 129 → m < fu → i ≤ (dB (nV a)).length →
  ksize_l1 n a fu (i : Int) = some (if (dB (nV a)).length ≤ 128 then (((dB (nV a)).length : Nat) : Int) else -1) := by
 intro m
 induction m with
 | zero =>
  intro i fu hi hf hle
  cases fu with
  | zero => omega
  | succ fu => rw [ksize_l1, ite_f (by simp; omega), if_neg (by omega)]
 | succ m ih =>
  intro i fu hi hf hle
  cases fu with
  | zero => omega
  | succ fu =>
   rw [ksize_l1, ite_t (by simp; omega), pWrite_k hn ha (show i ≤ 256 by omega), Option.bind_some]
   by_cases h : (dB (nV a)).length ≤ i
   ·have h1 := (dB_len _ _).1 h
    have h2 := D_of_dB h
    rw [if_pos (by omega), if_pos h1, ite_t (by rfl), if_pos (by omega)]
    congr 1; omega
   ·have h1 : ¬ nV a < 256 ^ i := fun h' => h ((dB_len _ _).2 h')
    have key : (((if (nD (nV a)).length ≤ 64 then (if nV a < 256 ^ i then (padB i (nV a), i, none) else ([], 0, some 1)) else ([], 0, some 4)) : List UInt8 × Nat × Option Int).2.2).isNone = false := by
     rw [if_neg h1]; split <;> rfl
    rw [ite_f key, gd_pos (okI64 (by omega) (by omega))]
    exact ih (i + 1) fu (by omega) (by omega) (by omega)
theorem ksize_is {n : Nat} (hn : 18446744073709551616 ≤ n) {a : List UInt32} (ha : a.length ≤ 1000000) :
  ksize n a = some (if (dB (nV a)).length ≤ 128 then (((dB (nV a)).length : Nat) : Int) else -1) :=
 ksize_l1_is hn ha 129 0 n rfl (by omega) (Nat.zero_le _)
theorem and1 (x : UInt32) : ((x &&& (1 : UInt32)) == 1) = decide (x.toNat % 2 = 1) := by
 have e : (x &&& (1 : UInt32)).toNat = x.toNat % 2 := by rw [UInt32.toNat_and]; exact Nat.and_one_is_mod _
 by_cases h : x.toNat % 2 = 1
 ·rw [decide_eq_true h, beq_iff_eq]; exact UInt32.toNat_inj.1 (by rw [e, h]; rfl)
 ·rw [decide_eq_false h, beq_eq_false_iff_ne]; intro h2; rw [h2] at e; exact h e.symm
theorem V_mod2 (a : List UInt32) : nV a % 2 = (a.getD 0 0).toNat % 2 := by
 cases a with
 | nil => rfl
 | cons x t => rw [V_cons]; simp; omega
theorem kodd_is (n : Nat) {a : List UInt32} (ha : a.length ≤ 1000000) : kodd n a = some (decide (nV a % 2 = 1)) := by
 unfold kodd
 cases a with
 | nil => rfl
 | cons x t =>
  rw [ite_t (by simp <;> omega), gd_pos (by omega), gd_pos (by simp <;> omega), and1, V_mod2]
def okP (N E : Nat) : Bool := decide (62 ≤ (dB N).length) && (decide ((dB N).length ≤ 128) && (decide (N % 2 = 1) && (decide (E % 2 = 1) && (decide (3 ≤ E) && decide (E < N)))))
theorem okP_iff {N E : Nat} : okP N E = true ↔ 62 ≤ (dB N).length ∧ (dB N).length ≤ 128 ∧ N % 2 = 1 ∧ E % 2 = 1 ∧ 3 ≤ E ∧ E < N := by simp [okP]
theorem V_three : nV [3] = 3 := rfl
theorem kCheck_is {n : Nat} (hn : 18446744073709551616 ≤ n) {a b : List UInt32} (ha : a.length ≤ 1000000) (hb : b.length ≤ 1000000) : kCheck n a b = some (if okP (nV a) (nV b) then none else some 1) := by
 have no : ∀ {q : Prop}, ¬ (62 ≤ (dB (nV a)).length ∧ (dB (nV a)).length ≤ 128 ∧ nV a % 2 = 1 ∧ nV b % 2 = 1 ∧ 3 ≤ nV b ∧ nV b < nV a) → (some (some 1) : Option (Option Int)) = some (if okP (nV a) (nV b) then none else some 1) := fun h => by
  rw [if_neg (fun h' => h (okP_iff.1 h'))]
 unfold kCheck
 rw [ksize_is hn ha, Option.bind_some]
 by_cases h1 : 62 ≤ (dB (nV a)).length ∧ (dB (nV a)).length ≤ 128
 ·rw [if_pos h1.2, ite_f (by simp; omega), kodd_is n ha, Option.bind_some]
  by_cases h2 : nV a % 2 = 1
  ·rw [ite_f (by simp [h2]), kodd_is n hb, Option.bind_some]
   by_cases h3 : nV b % 2 = 1
   ·rw [ite_f (by simp [h3]), pCmp_is hn hb (by decide), Option.bind_some, V_three]
    by_cases h4 : nV b < 3
    ·rw [ite_t (by simpa using cmpN_neg.2 h4)]; exact no (q := True) (by omega)
    ·rw [ite_f (by simpa using fun h => h4 (cmpN_neg.1 h)), pCmp_is hn hb ha, Option.bind_some]
     by_cases h5 : nV b < nV a
     ·rw [ite_f (by simpa using cmpN_neg.2 h5), if_pos (okP_iff.2 ⟨h1.1, h1.2, h2, h3, by omega, h5⟩)]
     ·rw [ite_t (by simpa using fun h => h5 (cmpN_neg.1 h))]; exact no (q := True) (by omega)
   ·rw [ite_t (by simp [h3])]; exact no (q := True) (by omega)
  ·rw [ite_t (by simp [h2])]; exact no (q := True) (by omega)
 ·have : (if (dB (nV a)).length ≤ 128 then (((dB (nV a)).length : Nat) : Int) else -1) < 62 := by split <;> omega
  rw [ite_t (by simpa using this)]; exact no (q := True) (by omega)
theorem qodd_is (n : Nat) {v : Nat} (h : (nE v).length ≤ 1000000) : qodd n (nE v) = some (decide (v % 2 = 1)) := by
 unfold qodd
 by_cases h0 : v = 0
 ·subst h0; rw [E_zero]; rfl
 ·have hl := (E_last h0).1
  have e := E_get v 0
  simp only [Nat.pow_zero, Nat.div_one] at e
  rw [ite_t (by simp <;> omega), gd_pos (by omega), gd_pos (by omega), gd_pos (by decide), e, Int.tmod_eq_emod_of_nonneg (by omega)]
  congr 1
  rw [Bool.eq_iff_iff]; simp only [beq_iff_eq, decide_eq_true_eq]; omega
theorem E_three : nE 3 = [3] := E_one (by decide) (by decide)
theorem qPublic_is {n : Nat} (hn : 18446744073709551616 ≤ n) {a b : List UInt32} (ha : a.length ≤ 10000) (hb : b.length ≤ 10000) : qPublic n a b = some (okP (nV a) (nV b)) := by
 have hEa := E2 (nV a) (k := a.length) D_le
 have hEb := E2 (nV b) (k := b.length) D_le
 unfold qPublic okP
 rw [rOf_is hn (by omega), Option.bind_some, rOf_is hn (by omega), Option.bind_some]
 dsimp only
 rw [rSize_is n (by omega), Option.bind_some]
 by_cases h1 : 62 ≤ (dB (nV a)).length
 ·rw [ite_t (by simp; omega), decide_eq_true h1]
  by_cases h2 : (dB (nV a)).length ≤ 128
  ·rw [ite_t (by simp; omega), decide_eq_true h2, qodd_is n (by omega), Option.bind_some]
   by_cases h3 : nV a % 2 = 1
   ·rw [ite_t (by simpa using h3), decide_eq_true h3, qodd_is n (by omega), Option.bind_some]
    by_cases h4 : nV b % 2 = 1
    ·rw [ite_t (by simpa using h4), decide_eq_true h4, ← E_three, rCmp_is hn (by omega) (by rw [E_three]; simp), Option.bind_some]
     by_cases h5 : 3 ≤ nV b
     ·rw [ite_t (by simp only [decide_eq_true_eq]; have := @cmpN_neg (nV b) 3; omega), decide_eq_true h5, rCmp_is hn (by omega) (by omega), Option.bind_some]
      simp only [Bool.true_and, Option.some.injEq]
      exact decide_eq_decide.2 cmpN_neg
     ·rw [ite_f (by simp only [decide_eq_false_iff_not]; have := @cmpN_neg (nV b) 3; omega), decide_eq_false h5]; rfl
    ·rw [ite_f (by simpa using h4), decide_eq_false h4]; rfl
   ·rw [ite_f (by simpa using h3), decide_eq_false h3]; rfl
  ·rw [ite_f (by simp; omega), decide_eq_false h2]; rfl
 ·rw [ite_f (by simp; omega), decide_eq_false h1]; rfl
end Go.Sx
end
section
namespace Go.Proofs.YtiojofjllkhbhaaGreat
open Go.RowKit Go.Ch Go.Sx Go.Lib Go.Shelf Go.Proofs
theorem cat_u8 : (Tryz.prog.info? 5).map (fun i => (i.zero, i.size, i.bytes)) = some (some (.int .u8 0), 1, 1) := by kernel_rfl
set_option maxHeartbeats 2000000 in
set_option maxRecDepth 100000 in
theorem grow_0 (w : World) : Calls Tryz.prog 76 #[.slice none 0 0, .int .i64 0] w (Ret fun v w' => Ext w w' ∧ Own w' w.heap.size 5 v []) := by
 go_enter Tryz.func76, Tryz.ntmps76
 go_wp2
 go_ret
 exact ⟨_, rfl, Below.refl _ _, World.ownsRow_nil _ _ _ _⟩
set_option maxHeartbeats 4000000 in
set_option maxRecDepth 100000 in
theorem grow_1 (w : World) (n : Nat) (h0 : 0 < n) (hn : n ≤ 1000000000000) : Calls Tryz.prog 76 #[.slice none 0 0, .int .i64 n] w (Ret fun v w' => Ext w w' ∧ Own w' w.heap.size 5 v []) := by
 obtain ⟨i0, hi0, hz0, hs0, hb0⟩ := info_parts cat_u8
 have t22 : Tryz.prog.underlying 32 = some (.slice 5) := Tryz.underlying32
 have t3 : Tryz.prog.underlying 3 = some (.int .i64) := Tryz.underlying3
 have u22 := run_underlying t22
 have u3 := run_underlying t3
 have h1 : ¬ ((n : Int) < 0) := by omega
 have h3 : wrap64 ((n : Int) - 0) = (n : Int) := by unfold wrap64; omega
 have h4 : (n : Int) > 0 := by omega
 have hold : (Builtin.firstCells i0.size 0 (.slice none 0 0)).run Tryz.prog w.drew = .ok (#[] : Array Value) w.drew := run_firstCells_none w.drew i0.size 0 0 0
 have hrz : ∀ ty, (Builtin.append_ #[32, 3] ty #[.slice none 0 0, .int .i64 (n : Int)]).run Tryz.prog w =
   .ok (.slice (some ⟨w.heap.size, 0, none⟩) n (grownCap w n 0 5)) (w.drew.alloc (.cells (#[] ++ Builtin.zeroCells (Value.cells (.int .u8 0)) n ++ Builtin.zeroCells (Value.cells (.int .u8 0)) (grownCap w n 0 5 - n)) 5)) := fun ty => by
  have h := Lib.run_append_grow_zeros w 32 3 ty 5 i0 (.int .u8 0) .i64 .i64 t22 t3 hi0 hz0 none 0 0 [] hold n (by omega) (by omega) (by omega) (by omega)
   (by rw [hb0]; omega)
   (by have := growslice_fits (show 0 < n from h0) (show n * i0.bytes ≤ 140737488355328 by rw [hb0]; omega); simpa using this)
  simpa using h
 have hGn : n ≤ grownCap w n 0 5 := grownCap_ge w _ _ _
 have hGm := grownCap_le_maxLen w n 0 5 (by unfold maxLen; omega)
 obtain ⟨G, hG⟩ : ∃ G, G = grownCap w n 0 5 := ⟨_, rfl⟩
 rw [← hG] at hrz hGn hGm
 have hG63 : G ≤ 9223372036854775807 := by unfold maxLen at hGm; omega
 clear hold hG
 go_enter Tryz.func76, Tryz.ntmps76
 go_wp2_with (at_builtin; refine Lib.wpList_append_run _ rfl _ _ _ _ rfl _ _ rfl rfl _ _ (hrz _) ?_)
 all_goals
  go_ret
  refine ⟨_, rfl, ?_, rfl, .inr ⟨w.heap.size, G, Builtin.zeroCells #[Value.int .u8 0] n ++ Builtin.zeroCells #[Value.int .u8 0] (G - n), rfl, Nat.le_refl _, ?_, Nat.zero_le _, hGm, ?_, ?_⟩⟩
  ·exact ((Below.refl _ _).alloc (Nat.le_refl _) _).drew
  ·show (w.heap.push _)[w.heap.size]? = _
   exact Array.getElem?_push_size
  ·have hz : ∀ k, (Builtin.zeroCells #[Value.int .u8 0] k).size = k := fun k => by simp [Builtin.zeroCells]
   rw [Array.size_append, hz, hz]; omega
  ·simp
theorem grow_c (w : World) (n : Nat) (hn : n ≤ 1000000000000) : Calls Tryz.prog 76 #[.slice none 0 0, .int .i64 n] w (Ret fun v w' => Ext w w' ∧ Own w' w.heap.size 5 v []) := by
 cases n with
 | zero => exact grow_0 w
 | succ n => exact grow_1 w (n + 1) (Nat.succ_pos _) hn
theorem cat_sl : (Tryz.prog.info? 32).map (fun i => (i.zero, i.size, i.bytes)) = some (some (.slice none 0 0), 1, 24) := by kernel_rfl
def SlS (w : World) (vs : List Value) (ls : List (List UInt8)) : Prop := vs.length = ls.length ∧ ∀ i, i < ls.length → ∃ B, Sl w B (vs.getD i undef) ((ls.getD i []).map bU)
theorem flat_take (ls : List (List UInt8)) (k : Nat) (h : k < ls.length) : (ls.take (k + 1)).flatten = (ls.take k).flatten ++ ls.getD k [] := by
 rw [List.take_succ_eq_append_getElem h, List.flatten_append, List.getD_eq_getElem?_getD, List.getElem?_eq_getElem h]; simp
theorem flat_le (ls : List (List UInt8)) (k : Nat) : (ls.take k).flatten.length ≤ ls.flatten.length := by
 have : ls.flatten = (ls.take k).flatten ++ (ls.drop k).flatten := by rw [← List.flatten_append, List.take_append_drop]
 rw [this, List.length_append]; omega
theorem vget {vs : List Value} {k n : Nat} (hn : vs.length = n) (h : k < n) : vs[k]? = some (vs.getD k undef) := by
 rw [List.getD_eq_getElem?_getD, List.getElem?_eq_getElem (by omega)]; rfl
set_option maxHeartbeats 800000 in
theorem concat_c (w : World) (B : Nat) (v : Value) (vs : List Value) (ls : List (List UInt8)) (hv : Sl w B v vs) (hvs : SlS w vs ls) (hl : ls.length ≤ 1000000) (hb : ls.flatten.length ≤ 1000000000) :
  Calls Tryz.prog 41 #[v] w (Ret fun v' w' => Ext w w' ∧ Own w' w.heap.size 5 v' (ls.flatten.map bU)) := by
 obtain ⟨i5, hi5, hz5, hs5, hb5⟩ := info_parts cat_u8
 obtain ⟨i32, hi32, hz32, hs32, hb32⟩ := info_parts cat_sl
 have hvl := hvs.1
 go_enter Tryz.func41, Tryz.ntmps41
 go_wp2_with (first
  | ((with_reducible refine g_at (d := 10) ?_); refine wpl_len rfl Tryz.underlying50 hv (by first | rw [List.length_map] | rfl) ?_; try (conv in (Act.put _ _ _) => simp only [Act.put, List.setIfInBounds_toArray, List.set_cons_succ, List.set_cons_zero]))
  | ((with_reducible refine g_at (d := 17) ?_); refine wpl_len rfl Tryz.underlying32 (by first | assumption | exact Own.sl (by assumption) | exact Sl.back (by first | assumption | exact Ext.drew' (by assumption) | exact Ext.undrew (by assumption)) (by first | assumption | exact Own.sl (by assumption) | exact Sl.back (by first | assumption | exact Ext.drew' (by assumption) | exact Ext.undrew (by assumption)) (by first | assumption | exact Own.sl (by assumption) | exact Sl.back (by first | assumption | exact Ext.drew' (by assumption) | exact Ext.undrew (by assumption)) (by first | assumption | exact Own.sl (by assumption) | exact Sl.back (by first | assumption | exact Ext.drew' (by assumption) | exact Ext.undrew (by assumption)) (by first | assumption | exact Own.sl (by assumption) | exact Sl.back (by first | assumption | exact Ext.drew' (by assumption) | exact Ext.undrew (by assumption)) (by first | assumption | exact Own.sl (by assumption) | exact Sl.back (by first | assumption | exact Ext.drew' (by assumption) | exact Ext.undrew (by assumption)) (by first | assumption | exact Own.sl (by assumption) | exact Sl.back (by first | assumption | exact Ext.drew' (by assumption) | exact Ext.undrew (by assumption)) (by first | assumption | exact Own.sl (by assumption))))))))) (by first | rw [List.length_map] | rfl) ?_; try (conv in (Act.put _ _ _) => simp only [Act.put, List.setIfInBounds_toArray, List.set_cons_succ, List.set_cons_zero]))
  | ((with_reducible refine g_at (d := 26) ?_); refine wpl_len rfl Tryz.underlying50 (by first | assumption | exact Own.sl (by assumption) | exact Sl.back (by first | assumption | exact Ext.drew' (by assumption) | exact Ext.undrew (by assumption)) (by first | assumption | exact Own.sl (by assumption) | exact Sl.back (by first | assumption | exact Ext.drew' (by assumption) | exact Ext.undrew (by assumption)) (by first | assumption | exact Own.sl (by assumption) | exact Sl.back (by first | assumption | exact Ext.drew' (by assumption) | exact Ext.undrew (by assumption)) (by first | assumption | exact Own.sl (by assumption) | exact Sl.back (by first | assumption | exact Ext.drew' (by assumption) | exact Ext.undrew (by assumption)) (by first | assumption | exact Own.sl (by assumption) | exact Sl.back (by first | assumption | exact Ext.drew' (by assumption) | exact Ext.undrew (by assumption)) (by first | assumption | exact Own.sl (by assumption) | exact Sl.back (by first | assumption | exact Ext.drew' (by assumption) | exact Ext.undrew (by assumption)) (by first | assumption | exact Own.sl (by assumption) | exact Sl.back (by first | assumption | exact Ext.drew' (by assumption) | exact Ext.undrew (by assumption)) (by first | assumption | exact Own.sl (by assumption))))))))) (by first | rw [List.length_map] | rfl) ?_; try (conv in (Act.put _ _ _) => simp only [Act.put, List.setIfInBounds_toArray, List.set_cons_succ, List.set_cons_zero])))
 rw [hvl]
 go_loopw [3, 11] (fun s i wr => ∃ k : Nat, k ≤ ls.length ∧ i = .int .i64 k ∧ s = .int .i64 (((ls.take k).flatten.length : Nat) : Int) ∧ Ext w wr) (fun _ i _ => ls.length - (RowKit.intOf i).toNat)
 case atStart => exact ⟨0, Nat.zero_le _, rfl, by simp, Below.refl _ _⟩
 case round =>
  obtain ⟨k, hk, rfl, rfl, hx⟩ := hrel
  by_cases hlt : k < ls.length
  ·obtain ⟨Bi, hsi⟩ := hvs.2 k hlt
   have hf := flat_take ls k hlt
   have hle := flat_le ls (k + 1)
   generalize ls.getD k [] = x at *
   rw [hf, List.length_append] at hle
   have hg : (ls.take (k + 1)).flatten.length = (ls.take k).flatten.length + x.length := by rw [hf, List.length_append]
   have HF := Lib.hid hg
   clear hf hg
   generalize (ls.take k).flatten.length = S at *
   have hw : wrap64 ((S : Int) + (x.length : Int)) = (S : Int) + (x.length : Int) := by unfold wrap64; omega
   have hneg : ¬ ((S : Int) + (x.length : Int) < 0) := Int.not_lt.2 (Int.add_nonneg (Int.natCast_nonneg _) (Int.natCast_nonneg _))
   go_wp2_with (first
    | ((with_reducible refine g_at (d := 13) ?_); refine wpl_index rfl rfl Tryz.underlying50 hi32 hs32 (hv.ext hx) rfl (vget hvl hlt) ?_; intro ad13 hb13 hc13; try (conv in (Act.put _ _ _) => simp only [Act.put, List.setIfInBounds_toArray, List.set_cons_succ, List.set_cons_zero]))
    | ((with_reducible refine g_at (d := 14) ?_); refine wpl_load1 rfl Tryz.underlying32 rfl hc13 ?_; try (conv in (Act.put _ _ _) => simp only [Act.put, List.setIfInBounds_toArray, List.set_cons_succ, List.set_cons_zero]))
    | ((with_reducible refine g_at (d := 17) ?_); refine wpl_len rfl Tryz.underlying32 (hsi.ext hx) (by first | rw [List.length_map] | rfl) ?_; try (conv in (Act.put _ _ _) => simp only [Act.put, List.setIfInBounds_toArray, List.set_cons_succ, List.set_cons_zero]))
    | ((with_reducible refine g_at (d := 10) ?_); refine wpl_len rfl Tryz.underlying50 (by first | assumption | exact Own.sl (by assumption) | exact Sl.back (by first | assumption | exact Ext.drew' (by assumption) | exact Ext.undrew (by assumption)) (by first | assumption | exact Own.sl (by assumption) | exact Sl.back (by first | assumption | exact Ext.drew' (by assumption) | exact Ext.undrew (by assumption)) (by first | assumption | exact Own.sl (by assumption) | exact Sl.back (by first | assumption | exact Ext.drew' (by assumption) | exact Ext.undrew (by assumption)) (by first | assumption | exact Own.sl (by assumption) | exact Sl.back (by first | assumption | exact Ext.drew' (by assumption) | exact Ext.undrew (by assumption)) (by first | assumption | exact Own.sl (by assumption) | exact Sl.back (by first | assumption | exact Ext.drew' (by assumption) | exact Ext.undrew (by assumption)) (by first | assumption | exact Own.sl (by assumption) | exact Sl.back (by first | assumption | exact Ext.drew' (by assumption) | exact Ext.undrew (by assumption)) (by first | assumption | exact Own.sl (by assumption) | exact Sl.back (by first | assumption | exact Ext.drew' (by assumption) | exact Ext.undrew (by assumption)) (by first | assumption | exact Own.sl (by assumption))))))))) (by first | rw [List.length_map] | rfl) ?_; try (conv in (Act.put _ _ _) => simp only [Act.put, List.setIfInBounds_toArray, List.set_cons_succ, List.set_cons_zero]))
    | ((with_reducible refine g_at (d := 26) ?_); refine wpl_len rfl Tryz.underlying50 (by first | assumption | exact Own.sl (by assumption) | exact Sl.back (by first | assumption | exact Ext.drew' (by assumption) | exact Ext.undrew (by assumption)) (by first | assumption | exact Own.sl (by assumption) | exact Sl.back (by first | assumption | exact Ext.drew' (by assumption) | exact Ext.undrew (by assumption)) (by first | assumption | exact Own.sl (by assumption) | exact Sl.back (by first | assumption | exact Ext.drew' (by assumption) | exact Ext.undrew (by assumption)) (by first | assumption | exact Own.sl (by assumption) | exact Sl.back (by first | assumption | exact Ext.drew' (by assumption) | exact Ext.undrew (by assumption)) (by first | assumption | exact Own.sl (by assumption) | exact Sl.back (by first | assumption | exact Ext.drew' (by assumption) | exact Ext.undrew (by assumption)) (by first | assumption | exact Own.sl (by assumption) | exact Sl.back (by first | assumption | exact Ext.drew' (by assumption) | exact Ext.undrew (by assumption)) (by first | assumption | exact Own.sl (by assumption) | exact Sl.back (by first | assumption | exact Ext.drew' (by assumption) | exact Ext.undrew (by assumption)) (by first | assumption | exact Own.sl (by assumption))))))))) (by first | rw [List.length_map] | rfl) ?_; try (conv in (Act.put _ _ _) => simp only [Act.put, List.setIfInBounds_toArray, List.set_cons_succ, List.set_cons_zero])))
   go_roundw
   case rel => exact ⟨k + 1, by omega, by go_num, by rw [HF.out]; go_num, hx⟩
   case measure => simp [RowKit.intOf]; omega
  ·obtain rfl : k = ls.length := by omega
   rw [List.take_length]
   have HB := Lib.hid hb
   generalize hS : ls.flatten.length = S at *
   have HS := Lib.hid hS
   clear hS
   go_wp2_with (first
    | ((with_reducible refine g_at (d := 24) ?_); refine wpl_call Tryz.func76 (by kernel_rfl) (by kernel_rfl) rfl (grow_c wr S (Nat.le_trans HB.out (by decide))) ?_; rintro v24 w24 ⟨hx24, h24⟩; try (conv in (Act.put _ _ _) => simp only [Act.put, List.setIfInBounds_toArray, List.set_cons_succ, List.set_cons_zero]))
    | ((with_reducible refine g_at (d := 26) ?_); refine wpl_len rfl Tryz.underlying50 (hv.ext (hx.tr hx24)) (by first | rw [List.length_map] | rfl) ?_; try (conv in (Act.put _ _ _) => simp only [Act.put, List.setIfInBounds_toArray, List.set_cons_succ, List.set_cons_zero]))
    | ((with_reducible refine g_at (d := 10) ?_); refine wpl_len rfl Tryz.underlying50 (by first | assumption | exact Own.sl (by assumption) | exact Sl.back (by first | assumption | exact Ext.drew' (by assumption) | exact Ext.undrew (by assumption)) (by first | assumption | exact Own.sl (by assumption) | exact Sl.back (by first | assumption | exact Ext.drew' (by assumption) | exact Ext.undrew (by assumption)) (by first | assumption | exact Own.sl (by assumption) | exact Sl.back (by first | assumption | exact Ext.drew' (by assumption) | exact Ext.undrew (by assumption)) (by first | assumption | exact Own.sl (by assumption) | exact Sl.back (by first | assumption | exact Ext.drew' (by assumption) | exact Ext.undrew (by assumption)) (by first | assumption | exact Own.sl (by assumption) | exact Sl.back (by first | assumption | exact Ext.drew' (by assumption) | exact Ext.undrew (by assumption)) (by first | assumption | exact Own.sl (by assumption) | exact Sl.back (by first | assumption | exact Ext.drew' (by assumption) | exact Ext.undrew (by assumption)) (by first | assumption | exact Own.sl (by assumption) | exact Sl.back (by first | assumption | exact Ext.drew' (by assumption) | exact Ext.undrew (by assumption)) (by first | assumption | exact Own.sl (by assumption))))))))) (by first | rw [List.length_map] | rfl) ?_; try (conv in (Act.put _ _ _) => simp only [Act.put, List.setIfInBounds_toArray, List.set_cons_succ, List.set_cons_zero]))
    | ((with_reducible refine g_at (d := 17) ?_); refine wpl_len rfl Tryz.underlying32 (by first | assumption | exact Own.sl (by assumption) | exact Sl.back (by first | assumption | exact Ext.drew' (by assumption) | exact Ext.undrew (by assumption)) (by first | assumption | exact Own.sl (by assumption) | exact Sl.back (by first | assumption | exact Ext.drew' (by assumption) | exact Ext.undrew (by assumption)) (by first | assumption | exact Own.sl (by assumption) | exact Sl.back (by first | assumption | exact Ext.drew' (by assumption) | exact Ext.undrew (by assumption)) (by first | assumption | exact Own.sl (by assumption) | exact Sl.back (by first | assumption | exact Ext.drew' (by assumption) | exact Ext.undrew (by assumption)) (by first | assumption | exact Own.sl (by assumption) | exact Sl.back (by first | assumption | exact Ext.drew' (by assumption) | exact Ext.undrew (by assumption)) (by first | assumption | exact Own.sl (by assumption) | exact Sl.back (by first | assumption | exact Ext.drew' (by assumption) | exact Ext.undrew (by assumption)) (by first | assumption | exact Own.sl (by assumption) | exact Sl.back (by first | assumption | exact Ext.drew' (by assumption) | exact Ext.undrew (by assumption)) (by first | assumption | exact Own.sl (by assumption))))))))) (by first | rw [List.length_map] | rfl) ?_; try (conv in (Act.put _ _ _) => simp only [Act.put, List.setIfInBounds_toArray, List.set_cons_succ, List.set_cons_zero])))
   rw [hvl]
   have hxx := hx.tr hx24
   have ho0 := h24.down hx.size
   clear hx hx24 h24
   go_loopw [6, 27] (fun o i wq => ∃ k : Nat, k ≤ ls.length ∧ i = .int .i64 k ∧ Own wq w.heap.size 5 o ((ls.take k).flatten.map bU) ∧ Ext w wq) (fun _ i _ => ls.length - (RowKit.intOf i).toNat)
   case atStart => exact ⟨0, Nat.zero_le _, rfl, by simpa using ho0, hxx⟩
   case round =>
    obtain ⟨k, hk, rfl, ho, hx⟩ := hrel
    by_cases hlt : k < ls.length
    ·obtain ⟨Bi, hsi⟩ := hvs.2 k hlt
     have hf := flat_take ls k hlt
     have hle := flat_le ls (k + 1)
     generalize ls.getD k [] = x at *
     rw [hf, List.length_append] at hle
     have HF := Lib.hid hf
     clear hf
     generalize (ls.take k).flatten = X at *
     have hb9 : (List.map bU X).length + (List.map bU x).length ≤ 1000000000 := by rw [List.length_map, List.length_map]; have h1 := HS.out; have h2 := HB.out; omega
     go_wp2_with (first
      | ((with_reducible refine g_at (d := 29) ?_); refine wpl_index rfl rfl Tryz.underlying50 hi32 hs32 (hv.ext hx) rfl (vget hvl hlt) ?_; intro ad29 hb29 hc29; try (conv in (Act.put _ _ _) => simp only [Act.put, List.setIfInBounds_toArray, List.set_cons_succ, List.set_cons_zero]))
      | ((with_reducible refine g_at (d := 30) ?_); refine wpl_load1 rfl Tryz.underlying32 rfl hc29 ?_; try (conv in (Act.put _ _ _) => simp only [Act.put, List.setIfInBounds_toArray, List.set_cons_succ, List.set_cons_zero]))
      | ((with_reducible refine g_at (d := 33) ?_); refine wpl_append (v := u6) rfl rfl Tryz.underlying32 hi5 hz5 hs5 hb5 rfl ho (hsi.ext hx) (bU_one x) (by first | omega | (simp <;> omega)) (by omega) hx.size ?_; intro v33 w33 h33 hg33 ha33 hx33; try (conv in (Act.put _ _ _) => simp only [Act.put, List.setIfInBounds_toArray, List.set_cons_succ, List.set_cons_zero]))
      | ((with_reducible refine g_at (d := 10) ?_); refine wpl_len rfl Tryz.underlying50 (by first | assumption | exact Own.sl (by assumption) | exact Sl.back (by first | assumption | exact Ext.drew' (by assumption) | exact Ext.undrew (by assumption)) (by first | assumption | exact Own.sl (by assumption) | exact Sl.back (by first | assumption | exact Ext.drew' (by assumption) | exact Ext.undrew (by assumption)) (by first | assumption | exact Own.sl (by assumption) | exact Sl.back (by first | assumption | exact Ext.drew' (by assumption) | exact Ext.undrew (by assumption)) (by first | assumption | exact Own.sl (by assumption) | exact Sl.back (by first | assumption | exact Ext.drew' (by assumption) | exact Ext.undrew (by assumption)) (by first | assumption | exact Own.sl (by assumption) | exact Sl.back (by first | assumption | exact Ext.drew' (by assumption) | exact Ext.undrew (by assumption)) (by first | assumption | exact Own.sl (by assumption) | exact Sl.back (by first | assumption | exact Ext.drew' (by assumption) | exact Ext.undrew (by assumption)) (by first | assumption | exact Own.sl (by assumption) | exact Sl.back (by first | assumption | exact Ext.drew' (by assumption) | exact Ext.undrew (by assumption)) (by first | assumption | exact Own.sl (by assumption))))))))) (by first | rw [List.length_map] | rfl) ?_; try (conv in (Act.put _ _ _) => simp only [Act.put, List.setIfInBounds_toArray, List.set_cons_succ, List.set_cons_zero]))
      | ((with_reducible refine g_at (d := 17) ?_); refine wpl_len rfl Tryz.underlying32 (by first | assumption | exact Own.sl (by assumption) | exact Sl.back (by first | assumption | exact Ext.drew' (by assumption) | exact Ext.undrew (by assumption)) (by first | assumption | exact Own.sl (by assumption) | exact Sl.back (by first | assumption | exact Ext.drew' (by assumption) | exact Ext.undrew (by assumption)) (by first | assumption | exact Own.sl (by assumption) | exact Sl.back (by first | assumption | exact Ext.drew' (by assumption) | exact Ext.undrew (by assumption)) (by first | assumption | exact Own.sl (by assumption) | exact Sl.back (by first | assumption | exact Ext.drew' (by assumption) | exact Ext.undrew (by assumption)) (by first | assumption | exact Own.sl (by assumption) | exact Sl.back (by first | assumption | exact Ext.drew' (by assumption) | exact Ext.undrew (by assumption)) (by first | assumption | exact Own.sl (by assumption) | exact Sl.back (by first | assumption | exact Ext.drew' (by assumption) | exact Ext.undrew (by assumption)) (by first | assumption | exact Own.sl (by assumption) | exact Sl.back (by first | assumption | exact Ext.drew' (by assumption) | exact Ext.undrew (by assumption)) (by first | assumption | exact Own.sl (by assumption))))))))) (by first | rw [List.length_map] | rfl) ?_; try (conv in (Act.put _ _ _) => simp only [Act.put, List.setIfInBounds_toArray, List.set_cons_succ, List.set_cons_zero]))
      | ((with_reducible refine g_at (d := 26) ?_); refine wpl_len rfl Tryz.underlying50 (by first | assumption | exact Own.sl (by assumption) | exact Sl.back (by first | assumption | exact Ext.drew' (by assumption) | exact Ext.undrew (by assumption)) (by first | assumption | exact Own.sl (by assumption) | exact Sl.back (by first | assumption | exact Ext.drew' (by assumption) | exact Ext.undrew (by assumption)) (by first | assumption | exact Own.sl (by assumption) | exact Sl.back (by first | assumption | exact Ext.drew' (by assumption) | exact Ext.undrew (by assumption)) (by first | assumption | exact Own.sl (by assumption) | exact Sl.back (by first | assumption | exact Ext.drew' (by assumption) | exact Ext.undrew (by assumption)) (by first | assumption | exact Own.sl (by assumption) | exact Sl.back (by first | assumption | exact Ext.drew' (by assumption) | exact Ext.undrew (by assumption)) (by first | assumption | exact Own.sl (by assumption) | exact Sl.back (by first | assumption | exact Ext.drew' (by assumption) | exact Ext.undrew (by assumption)) (by first | assumption | exact Own.sl (by assumption) | exact Sl.back (by first | assumption | exact Ext.drew' (by assumption) | exact Ext.undrew (by assumption)) (by first | assumption | exact Own.sl (by assumption))))))))) (by first | rw [List.length_map] | rfl) ?_; try (conv in (Act.put _ _ _) => simp only [Act.put, List.setIfInBounds_toArray, List.set_cons_succ, List.set_cons_zero])))
     go_roundw
     case rel => exact ⟨k + 1, by omega, by go_num, by rw [HF.out, List.map_append]; exact h33, hx.trans hx33⟩
     case measure => simp [RowKit.intOf]; omega
    ·obtain rfl : k = ls.length := by omega
     rw [List.take_length] at ho
     go_wp2
     go_ret
     exact ⟨_, rfl, hx, ho⟩
end Go.Proofs.YtiojofjllkhbhaaGreat
end
section
namespace Go.Proofs.YtiojofjllkhbhaaGreat
open Go.RowKit Go.Ch Go.Sx
theorem deep_sl {w : World} {p : Pl} {e e' : TypeId} {l : List (List UInt8)} (h : objR (fun _ => p) w p ⟨.dp false, e, 1, l.length, .d (.by e') l⟩) :
  ∃ vs, Sl w w.heap.size (.slice p.A p.n p.cap) vs ∧ SlS w vs l := by
 obtain ⟨⟨h1, h2, h3, h4⟩, h5, h6, A, cap, g1, g2, g3, g4, g5, g6⟩ : DpR w p ⟨.dp false, e, 1, l.length, .d (.by e') l⟩ := h
 rw [h5] at g1
 refine ⟨(List.range l.length).map fun k => p.gv [(k, 0)], ⟨Nat.le_refl _, A, cap, ?_, ?_, g3, g4, fun ad had j u hu => ?_⟩, ?_, fun i hi => ?_⟩
 ·rw [List.length_map, List.length_range]; exact g1
 ·rw [List.length_map, List.length_range]; exact g2
 ·have hj : j < l.length := by have := (List.getElem?_eq_some_iff.1 hu).1; simpa using this
  rw [List.getElem?_map, List.getElem?_range hj] at hu
  simp only [Option.map_some, Option.some.injEq] at hu
  subst hu
  have := (g6 j l[j] (List.getElem?_eq_getElem hj)).1 ad had 0 (Nat.lt_succ_self 0)
  rw [show j * (Dsh.by e').sz + 0 = j from Nat.mul_one j] at this
  exact ⟨h6 _ (g5 ad had (Nat.lt_of_le_of_lt (Nat.zero_le _) hj)), this⟩
 ·rw [List.length_map, List.length_range]
 ·obtain ⟨A', cap', k1, k2, k3, k4, k5, k6⟩ := (g6 i l[i] (List.getElem?_eq_getElem hi)).2
  refine ⟨w.heap.size, Nat.le_refl _, A', cap', ?_, ?_, k3, k4, fun ad had j u hu => ⟨?_, k6 ad had j u ?_⟩⟩
  ·rw [List.getD_eq_getElem?_getD, List.getElem?_map, List.getElem?_range hi, List.getD_eq_getElem?_getD, List.getElem?_eq_getElem hi, List.length_map]
   exact k1
  ·rw [List.length_map, List.getD_eq_getElem?_getD, List.getElem?_eq_getElem hi]; exact k2
  ·have hj := (List.getElem?_eq_some_iff.1 hu).1
   rw [List.length_map, List.getD_eq_getElem?_getD, List.getElem?_eq_getElem hi] at hj
   exact h6 _ (k5 ad had (Nat.lt_of_le_of_lt (Nat.zero_le _) hj))
  ·rw [List.getD_eq_getElem?_getD, List.getElem?_eq_getElem hi] at hu; exact hu
def cat_ctD : Ct := fun args H => match args with
 | [y] => (match aD (.by 5) H y with
  | some ls => some ([List.length (α := List UInt8) ls ≤ 1000000, (List.flatten (α := UInt8) ls).length ≤ 1000000000], .c (.wh H.length), [⟨.row, 5, 1, (List.flatten (α := UInt8) ls).length, .b (List.flatten (α := UInt8) ls)⟩])
  | none => none)
 | _ => none
theorem cat_hD : FnOk Tryz.prog Tr 41 cat_ctD := by
 refine ⟨fun args H g av objs hF hg ρ w vals hG hp ha => ?_, _, Tryz.func41, by kernel_rfl, by kernel_rfl⟩
 unfold cat_ctD at hF
 split at hF
 ·rename_i y
  split at hF
  ·rename_i ls hls
   simp only [Option.some.injEq, Prod.mk.injEq] at hF
   obtain ⟨rfl, rfl, rfl⟩ := hF
   obtain ⟨v, vals, rfl, k, ha⟩ := F2.inv ha
   obtain rfl := F2.inv0 ha
   obtain ⟨p, rfl, ho⟩ := aD_ok hp hls k 32
   obtain ⟨vs, s1, s2⟩ := deep_sl (ho (fun _ => p))
   obtain ⟨g1, g2⟩ : List.length (α := List UInt8) ls ≤ 1000000 ∧ (List.flatten (α := UInt8) ls).length ≤ 1000000000 := by simpa [allP] using hg
   exact calls_mono (concat_c w _ _ vs ls s1 s2 g1 g2) fun v w' ⟨hx, hv⟩ => ⟨hx, left_row hv (fun _ => csR_b.2 rfl) (by rw [List.length_map])⟩
  ·cases hF
 ·cases hF
end Go.Proofs.YtiojofjllkhbhaaGreat
end
section
namespace Go.Proofs.YtiojofjllkhbhaaGreat
open Go.RowKit Go.Ch Go.Sx
def tabL_qs : List (TypeId × Ti) := [(3, ⟨.int .i64, 1, 8, true, some [.int .i64]⟩),
 (4, ⟨.bool, 1, 1, true, some [.bool]⟩),
 (5, ⟨.int .u8, 1, 1, true, some [.int .u8]⟩),
 (9, ⟨.str, 1, 16, true, some [.str]⟩),
 (23, ⟨.sl 78, 1, 24, false, some [.nils]⟩),
 (24, ⟨.sl 63, 1, 24, false, some [.nils]⟩),
 (25, ⟨.sl 63, 1, 24, false, some [.nils]⟩),
 (27, ⟨.st [(25, 0), (25, 1)], 2, 48, false, some [.nils, .nils]⟩),
 (29, ⟨.st [(3, 0), (23, 1), (27, 2), (4, 4), (23, 5), (25, 6)], 7, 136, false, some [.int .i64, .nils, .nils, .nils, .bool, .nils, .nils]⟩),
 (32, ⟨.sl 5, 1, 24, false, some [.nils]⟩),
 (34, ⟨.ifc, 1, 16, true, some [.ifc]⟩),
 (37, ⟨.int .i64, 1, 8, true, some [.int .i64]⟩),
 (40, ⟨.sl 65, 1, 24, false, some [.nils]⟩),
 (50, ⟨.sl 32, 1, 24, false, some [.nils]⟩),
 (55, ⟨.sl 3, 1, 24, false, some [.nils]⟩),
 (56, ⟨.sl 3, 1, 24, false, some [.nils]⟩),
 (63, ⟨.int .u32, 1, 4, true, some [.int .u32]⟩),
 (65, ⟨.st [(29, 0), (3, 7), (32, 8)], 9, 168, false, some [.int .i64, .nils, .nils, .nils, .bool, .nils, .nils, .int .i64, .nils]⟩),
 (69, ⟨.ptr 73, 1, 8, true, some [.ptr]⟩),
 (70, ⟨.ptr 102, 1, 8, true, some [.ptr]⟩),
 (73, ⟨.st [(70, 0), (4, 1)], 2, 16, true, some [.ptr, .bool]⟩),
 (78, ⟨.sl 80, 1, 24, false, some [.nils]⟩),
 (80, ⟨.st [(24, 0), (5, 1), (32, 2)], 3, 56, false, some [.nils, .int .u8, .nils]⟩),
 (102, ⟨.st [(32, 0), (3, 1), (55, 2)], 3, 56, false, some [.nils, .int .i64, .nils]⟩)]
def tab_qs : Tab := fun t => (tabL_qs).lookup t
theorem tabE_qs : (tabL_qs.map fun p => tiOf Tryz.prog p.1) = tabL_qs.map fun p => some p.2 := by kernel_rfl
theorem tabO_qs : TabOk Tryz.prog tab_qs := tab_of tabE_qs
def qelement (n : Nat) (a0 : UInt8) (a1 : List (List UInt8)) : Option (List UInt8) :=
 gd ((a1).length ≤ 1000000) <|
 gd ((a1).flatten.length ≤ 1000000000) <|
 (tHead n a0 ((((a1).flatten).length : Nat) : Int)).bind fun r14 =>
 bif (!((r14.2).isNone)) then
  some []
 else
  gd (rmB (r14.1.length + (((a1).flatten).length)) 1) <|
  some (r14.1 ++ ((a1).flatten))
def qnumber (n : Nat) (a0 : List UInt32) : Option (List UInt8 × Bool) :=
 (pBig n a0).bind fun r8 =>
 (qelement n 2 ([r8.1] : List (List UInt8))).bind fun r13 =>
 some (r13, (r8.2).isNone)
def qelder (n : Nat) (a0_0 : Int) (a0_1 : List (List (List UInt32 × (UInt8 × List UInt8)))) (a0_2_0 : List UInt32) (a0_2_1 : List UInt32) (a0_3 : Bool) (a0_4 : List (List (List UInt32 × (UInt8 × List UInt8)))) (a0_5 : List UInt32) : Option (List UInt8 × Bool) :=
 (nWrite n a0_4).bind fun r11 =>
 (qnumber n a0_5).bind fun r17 =>
 bif (!((r11.2).isNone)) then
  some ([], false)
 else
  bif (!r17.2) then
   some ([], false)
  else
   bif (((a0_4.length : Nat) : Int) == 0) then
    some ([], false)
   else
    (pCmp n a0_5 []).bind fun r35 =>
    bif (r35 == 0) then
     some ([], false)
    else
     bif (decide ((22 : Int) < ((r17.1.length : Nat) : Int))) then
      some ([], false)
     else
      (qelement n 6 ([[43, 6, 1, 5, 5, 7, 5, 1, 5]] : List (List UInt8))).bind fun r46 =>
      (qelement n 48 ([r11.1, r17.1] : List (List UInt8))).bind fun r50 =>
      (qelement n 48 ([r46, r50] : List (List UInt8))).bind fun r52 =>
      (qelement n 48 ([r52] : List (List UInt8))).bind fun r54 =>
      some (r54, true)
def qAsk_j1 (n : Nat) (d10_1 : List (List UInt8)) : Option (List UInt8 × Option Int) :=
 (qelement n 48 d10_1).bind fun r99_1 =>
 some (r99_1, none)
def qAsk (n : Nat) (a0_0 : Int) (a0_1 : List (List (List UInt32 × (UInt8 × List UInt8)))) (a0_2_0 : List UInt32) (a0_2_1 : List UInt32) (a0_3 : Bool) (a0_4 : List (List (List UInt32 × (UInt8 × List UInt8)))) (a0_5 : List UInt32) : Option (List UInt8 × Option Int) :=
 (nWrite n a0_1).bind fun r16 =>
 bif (!((r16.2).isNone)) then
  some ([], (some 1))
 else
  bif (((a0_1.length : Nat) : Int) == 0) then
   some ([], (some 1))
  else
   bif (decide (a0_0 < (0 : Int))) then
    some ([], (some 1))
   else
    bif (decide ((2147483647 : Int) < a0_0)) then
     some ([], (some 1))
    else
     gd (2 + 2 ≤ 7) <|
     (kCheck n a0_2_0 a0_2_1).bind fun r40 =>
     bif (!((r40).isNone)) then
      some ([], (some 1))
     else
      (qnumber n a0_2_0).bind fun r48 =>
      (qnumber n a0_2_1).bind fun r55 =>
      (pInt n a0_0).bind fun r60 =>
      (qelement n 2 ([r60] : List (List UInt8))).bind fun r62 =>
      (qelement n 165 ([r16.1] : List (List UInt8))).bind fun r65 =>
      (qelement n 166 ([r48.1, r55.1] : List (List UInt8))).bind fun r69 =>
      (qelement n 48 ([r65, r69] : List (List UInt8))).bind fun r71 =>
      bif a0_3 then
       (qelder n a0_0 a0_1 a0_2_0 a0_2_1 a0_3 a0_4 a0_5).bind fun r77 =>
       bif (!r77.2) then
        some ([], (some 1))
       else
        gd (rmB 3 24) <|
        qAsk_j1 n ((([] ++ [r62]) ++ [r71]) ++ [r77.1])
      else
       bif (decide ((0 : Int) < ((a0_4.length : Nat) : Int))) then
        some ([], (some 1))
       else
        (pCmp n a0_5 []).bind fun r94 =>
        bif (r94 != 0) then
         some ([], (some 1))
        else
         qAsk_j1 n (([] ++ [r62]) ++ [r71])
def qel10 (n : Nat) (a0 : UInt8) (a1 : List UInt8) : Option (List UInt8) :=
 (rEl n a0 a1).bind fun r7 =>
 some r7
def qBig10 (n : Nat) (a0 : List UInt32) : Option (List UInt8) :=
 (rBig n a0).bind fun r4 =>
 (qel10 n 2 r4.1).bind fun r5 =>
 some r5
def qel13 (n : Nat) (a0 : UInt8) (a1 : List UInt8) : Option (List UInt8) :=
 (rEl n a0 a1).bind fun r7 =>
 some r7
def qsmall (n : Nat) (a0 : Int) : Option (List UInt8) :=
 gd ((65536 : Int) ≠ 0) <|
 gd ((65536 : Int) ≠ 0) <|
 gd (okI .i64 (Int.tdiv a0 65536)) <|
 (rMul n [(Int.tdiv a0 65536)] [0, 1]).bind fun r10 =>
 (rAdd n [(Int.tmod a0 65536)] r10.1).bind fun r11 =>
 (rTo n r11.1).bind fun r12 =>
 (qBig10 n r12).bind fun r13 =>
 some r13
def qSerial (n : Nat) (a0 : List UInt32) : Option (Bool) :=
 (rOf n a0).bind fun r5 =>
 bif (decide ((0 : Int) < ((r5.2 : Nat) : Int))) then
  (rSize n r5.1).bind fun r11 =>
  bif (decide (r11 ≤ (20 : Int))) then
   (rBig n a0).bind fun r16 =>
   some (decide (((r16.2 : Nat) : Int) ≤ (20 : Int)))
  else
   some false
 else
  some false
def qMay (n : Nat) (a0_0 : Int) (a0_1 : List (List (List UInt32 × (UInt8 × List UInt8)))) (a0_2_0 : List UInt32) (a0_2_1 : List UInt32) (a0_3 : Bool) (a0_4 : List (List (List UInt32 × (UInt8 × List UInt8)))) (a0_5 : List UInt32) : Option (Bool) :=
 (r9Write n a0_1).bind fun r10 =>
 bif (!r10.2) then
  some false
 else
  bif (((a0_1.length : Nat) : Int) == 0) then
   some false
  else
   bif (decide (a0_0 < (0 : Int))) then
    some false
   else
    bif (decide ((2147483647 : Int) < a0_0)) then
     some false
    else
     gd (2 + 2 ≤ 7) <|
     (qPublic n a0_2_0 a0_2_1).bind fun r34 =>
     bif (!r34) then
      some false
     else
      bif (!a0_3) then
       bif (((a0_4.length : Nat) : Int) == 0) then
        (rOf n a0_5).bind fun r47 =>
        some (((r47.2 : Nat) : Int) == 0)
       else
        some false
      else
       (r9Write n a0_4).bind fun r54 =>
       bif r54.2 then
        bif (decide ((0 : Int) < ((a0_4.length : Nat) : Int))) then
         (qSerial n a0_5).bind fun r67 =>
         some r67
        else
         some false
       else
        some false
def qAsk13_j1 (n : Nat) (l6_1 : List UInt8) : Option (List UInt8) :=
 (qel13 n 48 l6_1).bind fun r61_1 =>
 some r61_1
def qAsk13 (n : Nat) (a0_0 : Int) (a0_1 : List (List (List UInt32 × (UInt8 × List UInt8)))) (a0_2_0 : List UInt32) (a0_2_1 : List UInt32) (a0_3 : Bool) (a0_4 : List (List (List UInt32 × (UInt8 × List UInt8)))) (a0_5 : List UInt32) : Option (List UInt8) :=
 (r9Write n a0_1).bind fun r14 =>
 (qBig10 n a0_2_0).bind fun r20 =>
 (qBig10 n a0_2_1).bind fun r24 =>
 gd (rmB (r20.length + r24.length) 1) <|
 (qsmall n a0_0).bind fun r28 =>
 (qel13 n 165 r14.1).bind fun r30 =>
 (qel13 n 166 (r20 ++ r24)).bind fun r32 =>
 gd (rmB (r30.length + r32.length) 1) <|
 (qel13 n 48 (r30 ++ r32)).bind fun r34 =>
 gd (rmB (r28.length + r34.length) 1) <|
 bif a0_3 then
  (r9Write n a0_4).bind fun r41 =>
  (qBig10 n a0_5).bind fun r47 =>
  gd (rmB (r41.1.length + r47.length) 1) <|
  (qel13 n 48 (r41.1 ++ r47)).bind fun r49 =>
  (rOidBody n [1, 3, 6, 1, 5, 5, 7, 5, 1, 5]).bind fun r51 =>
  (qel13 n 6 r51).bind fun r52 =>
  gd (rmB (r52.length + r49.length) 1) <|
  (qel13 n 48 (r52 ++ r49)).bind fun r57 =>
  (qel13 n 48 r57).bind fun r58 =>
  gd (rmB (((r28 ++ r34).length) + r58.length) 1) <|
  qAsk13_j1 n ((r28 ++ r34) ++ r58)
 else
  qAsk13_j1 n (r28 ++ r34)
def qWrite0 (n : Nat) : Option (Unit) :=
 some ()
def qin (n : Nat) (a0_0 : List UInt8) (a0_1 : Int) (a0_2 : List Int) (a0_3 : Bool) (a1 : UInt8) : Option (Int × List Int × Bool) :=
 bif a0_3 then
  some (a0_1, a0_2, true)
 else
  (tEnter n a0_0 a0_1 a0_2 a1).bind fun r15 =>
  some (r15.1, r15.2.1, (!((r15.2.2).isNone)))
def qat (n : Nat) (a0_0 : List UInt8) (a0_1 : Int) (a0_2 : List Int) (a0_3 : Bool) (a1 : UInt8) : Option (Bool) :=
 (tNext n a0_0 a0_1 a0_2).bind fun r12 =>
 bif (!a0_3) then
  bif r12.2 then
   some (r12.1 == a1)
  else
   some false
 else
  some false
def qRead_j1 (n : Nat) (a0 : List UInt8) (r9 : List UInt8 × List Int) (r13 : Int × List Int × Bool) : Option (Unit) :=
 (qWrite0 n).bind fun r28 =>
 bif r13.2.2 then
  some ()
 else
  some ()
def qRead_l1 (n : Nat) (a0 : List UInt8) (r9 : List UInt8 × List Int) (r13 : Int × List Int × Bool) : Nat → Option (Unit)
 | 0 => none
 | fu_l1 + 1 =>
  (qat n r9.1 r13.1 r13.2.1 r13.2.2 48).bind fun r15 =>
  bif r15 then
   none
  else
   qRead_j1 n a0 r9 r13
def qRead (n : Nat) (a0 : List UInt8) : Option (Unit) :=
 (tNewR n a0).bind fun r9 =>
 (qin n r9.1 0 r9.2 false 48).bind fun r13 =>
 qRead_l1 n a0 r9 r13 n
def qup (n : Nat) : Option (Bool) :=
 (qWrite0 n).bind fun r6 =>
 (qRead n []).bind fun r10 =>
 gd (¬(((some 1) : Option Int) = none ∧ ((some 1) : Option Int) = none)) <|
 bif ((some 1) == (some 1)) then
  gd (¬(((some 2) : Option Int) = none ∧ ((some 2) : Option Int) = none)) <|
  some ((some 2) == (some 2))
 else
  some false
def qfew_l2 (n : Nat) (a0 : List (List (List UInt32 × (UInt8 × List UInt8)))) (i3_2 : Int) (k_l1 : Int → Option (Bool)) : Nat → Int → Option (Bool)
 | 0, _ => none
 | fu_l2 + 1, i4_8 =>
 gd (0 ≤ i3_2) <|
 gd (i3_2 < ((a0.length : Nat) : Int)) <|
 bif (decide (i4_8 < (((a0.getD i3_2.toNat []).length : Nat) : Int))) then
 gd (0 ≤ i3_2) <|
 gd (i3_2 < ((a0.length : Nat) : Int)) <|
 gd (0 ≤ i4_8) <|
 gd (i4_8 < (((a0.getD i3_2.toNat []).length : Nat) : Int)) <|
 bif (decide ((200 : Int) < (((((a0.getD i3_2.toNat []).getD i4_8.toNat ([], (0, []))).2.2).length : Nat) : Int))) then
 some false
 else
 gd (0 ≤ i3_2) <|
 gd (i3_2 < ((a0.length : Nat) : Int)) <|
 gd (0 ≤ i4_8) <|
 gd (i4_8 < (((a0.getD i3_2.toNat []).length : Nat) : Int)) <|
 bif (decide ((30 : Int) < (((((a0.getD i3_2.toNat []).getD i4_8.toNat ([], (0, []))).1).length : Nat) : Int))) then
 some false
 else
 gd (okI .i64 (i4_8 + 1)) <|
 (qfew_l2 n a0 i3_2 k_l1 fu_l2) (i4_8 + 1)
 else
 gd (okI .i64 (i3_2 + 1)) <|
 k_l1 (i3_2 + 1)
def qfew_l1 (n : Nat) (a0 : List (List (List UInt32 × (UInt8 × List UInt8)))) : Nat → Int → Option (Bool)
 | 0, _ => none
 | fu_l1 + 1, i3_2 =>
 bif (decide (i3_2 < ((a0.length : Nat) : Int))) then
 gd (0 ≤ i3_2) <|
 gd (i3_2 < ((a0.length : Nat) : Int)) <|
 bif (decide ((10 : Int) < (((a0.getD i3_2.toNat []).length : Nat) : Int))) then
 some false
 else
 qfew_l2 n a0 i3_2 (qfew_l1 n a0 fu_l1) n 0
 else
 some true
def qfew (n : Nat) (a0 : List (List (List UInt32 × (UInt8 × List UInt8)))) : Option (Bool) :=
 bif (decide ((20 : Int) < ((a0.length : Nat) : Int))) then
 some false
 else
 qfew_l1 n a0 n 0
def qLight (n : Nat) (a0_0 : Int) (a0_1 : List (List (List UInt32 × (UInt8 × List UInt8)))) (a0_2_0 : List UInt32) (a0_2_1 : List UInt32) (a0_3 : Bool) (a0_4 : List (List (List UInt32 × (UInt8 × List UInt8)))) (a0_5 : List UInt32) : Option (Bool) :=
 (qfew n a0_1).bind fun r5 =>
 bif r5 then
  (qfew n a0_4).bind fun r9 =>
  bif r9 then
   bif (decide (((a0_2_0.length : Nat) : Int) ≤ (70 : Int))) then
    bif (decide (((a0_2_1.length : Nat) : Int) ≤ (70 : Int))) then
     some (decide (((a0_5.length : Nat) : Int) ≤ (70 : Int)))
    else
     some false
   else
    some false
  else
   some false
 else
  some false
def lAsks (n : Nat) (a0_0 : Int) (a0_1 : List (List (List UInt32 × (UInt8 × List UInt8)))) (a0_2_0 : List UInt32) (a0_2_1 : List UInt32) (a0_3 : Bool) (a0_4 : List (List (List UInt32 × (UInt8 × List UInt8)))) (a0_5 : List UInt32) : Option (Bool) :=
 (qup n).bind fun r8 =>
 (qLight n a0_0 a0_1 a0_2_0 a0_2_1 a0_3 a0_4 a0_5).bind fun r10 =>
 bif (!r10) then
  some r8
 else
  (qAsk n a0_0 a0_1 a0_2_0 a0_2_1 a0_3 a0_4 a0_5).bind fun r16 =>
  (qMay n a0_0 a0_1 a0_2_0 a0_2_1 a0_3 a0_4 a0_5).bind fun r20 =>
  bif (!r20) then
   bif r8 then
    gd (¬((r16.2 : Option Int) = none ∧ ((some 1) : Option Int) = none)) <|
    bif (r16.2 == (some 1)) then
     some (((r16.1.length : Nat) : Int) == 0)
    else
     some false
   else
    some false
  else
   bif r8 then
    bif ((r16.2).isNone) then
     (qAsk13 n a0_0 a0_1 a0_2_0 a0_2_1 a0_3 a0_4 a0_5).bind fun r43 =>
     some (r16.1 == r43)
    else
     some false
   else
    some false
def qelement_R (r : List UInt8) : S := ⟨[(4, kH 0)], [], [nb 5 r]⟩
def qelement_ct (n : Nat) (r : List UInt8) : Ct := ctc rU8.rd fun _ l0 => ctc (rD 32 (.by 5)).rd fun _ l1 => ct0 fun H => ([qelement n l0 l1 = some r], shA H.length (kH 0), shH H.length [nb 5 r])
theorem qelement_ok (n : Nat) (r : List UInt8) : FnOk Tryz.prog Tr 15 (qelement_ct n r) := by
 refine fnok Tryz.func15 ?_
 refine HO_c rU8 fun l0 _ => HO_c (rD 32 (.by 5)) fun (l1 : List (List UInt8)) _ => HO_0 tabO_qs (qelement_R r) [.tmp 4] [0] 22 Tryz.func15 fun w hG h => ?_
 unfold qelement at h
 have hT := tabO_qs
 refine Vrs hT [0] ⟨[(0, kU l0), (1, kH 0)], [], [⟨(.dp false), 32, 1, l1.length, .d (.by 5) l1⟩]⟩ ?_
 obtain ⟨g1, g2, h⟩ := gd2 h
 refine Vgs hT (fT 1 cat_hD fN) [] [] [1] ⟨[(0, kU l0), (5, kH 0)], [], [nb 5 ((l1).flatten)]⟩ (aP g1 (aP g2 aN)) ?_
 obtain ⟨r14, g3, h⟩ := bind_some' h
 refine Vgs hT (fT 3 (tHead_ok n r14) fN) [] [] [0, 1] ⟨[(5, kH 0), (6, kH 1), (7, kE 37 r14.2)], [], [nb 5 ((l1).flatten), nb 5 r14.1]⟩ (aP g3 aN) ?_
 refine W_seq ?_
 refine Vrs hT [0, 1] ⟨[(5, kH 0), (6, kH 1), (18, kB (!((r14.2).isNone)))], [], [nb 5 ((l1).flatten), nb 5 r14.1]⟩ ?_
 refine Vi ((!((r14.2).isNone))) (fun g5 => ?_) (fun g5 => ?_)
 ·replace h := bif_t h g5
  refine Vrs hT [] ⟨[(4, .c (.nils))], [], []⟩ ?_
  refine Vc [.nil 4 5 1 (.b [])] [0] (qelement_R []) (W_ret ?_)
  exact ⟨.inl rfl, by cases h; rfl⟩
 ·replace h := bif_f h g5
  refine W_skip ?_
  obtain ⟨g4, h⟩ := gd_some h
  refine Vgs hT fN [] [] [2] ⟨[(4, kH 0)], [], [nb 5 (r14.1 ++ ((l1).flatten))]⟩ (aP g4 aN) ?_
  refine Vc [] [0] (qelement_R (r14.1 ++ ((l1).flatten))) (W_ret ?_)
  exact ⟨.inl rfl, by cases h; rfl⟩
def qnumber_R (r : List UInt8 × Bool) : S := ⟨[(2, kH 0), (3, kB r.2)], [], [nb 5 r.1]⟩
def qnumber_ct (n : Nat) (r : List UInt8 × Bool) : Ct := ctc (rW 63).rd fun _ l0 => ct0 fun H => ([qnumber n l0 = some r], shA H.length (.t [.c (.wh 0), .c (.s (.b r.2))]), shH H.length [nb 5 r.1])
theorem qnumber_ok (n : Nat) (r : List UInt8 × Bool) : FnOk Tryz.prog Tr 14 (qnumber_ct n r) := by
 refine fnok Tryz.func14 ?_
 refine HO_c (rW 63) fun l0 _ => HO_0 tabO_qs (qnumber_R r) [.tmp 2, .tmp 3] [0] 16 Tryz.func14 fun w hG h => ?_
 unfold qnumber at h
 have hT := tabO_qs
 refine Vrs hT [0] ⟨[(0, kH 0)], [], [ow 63 l0]⟩ ?_
 obtain ⟨r8, g1, h⟩ := bind_some' h
 refine Vgs hT (fT 1 (pBig_ok n r8) fN) [] [] [1] ⟨[(4, kH 0), (5, kE 37 r8.2)], [], [nb 5 r8.1]⟩ (aP g1 aN) ?_
 obtain ⟨r13, g2, h⟩ := bind_some' h
 refine Vds hT (fT 2 (qelement_ok n r13) fN) 6 [] [(2, false), (15, false)] [] [1] ⟨[(2, kH 0), (3, kB ((r8.2).isNone))], [], [nb 5 r13]⟩ (aP g2 aN) ?_
 refine Vc [] [0] (qnumber_R (r13, (r8.2).isNone)) (W_ret ?_)
 exact ⟨.inl rfl, by cases h; rfl⟩
def qelder_R (r : List UInt8 × Bool) : S := ⟨[(2, kH 0), (3, kB r.2)], [], [nb 5 r.1]⟩
def qelder_ct (n : Nat) (r : List UInt8 × Bool) : Ct := ctc (rSt (lC cI (lC (cD 78 (.sl 80 (.pr (.wo 63) (.pr .u8 (.by 5))))) (lC (cW 63) (lC (cW 63) (lC cBo (lC (cD 78 (.sl 80 (.pr (.wo 63) (.pr .u8 (.by 5))))) (lC (cW 63) lN)))))))).rd fun _ y0 => ct0 fun H => ([qelder n y0.1 y0.2.1 y0.2.2.1 y0.2.2.2.1 y0.2.2.2.2.1 y0.2.2.2.2.2.1 y0.2.2.2.2.2.2.1 = some r], shA H.length (.t [.c (.wh 0), .c (.s (.b r.2))]), shH H.length [nb 5 r.1])
theorem qelder_ok (n : Nat) (r : List UInt8 × Bool) : FnOk Tryz.prog Tr 17 (qelder_ct n r) := by
 refine fnok Tryz.func17 ?_
 refine HO_c (rSt (lC cI (lC (cD 78 (.sl 80 (.pr (.wo 63) (.pr .u8 (.by 5))))) (lC (cW 63) (lC (cW 63) (lC cBo (lC (cD 78 (.sl 80 (.pr (.wo 63) (.pr .u8 (.by 5))))) (lC (cW 63) lN)))))))) fun (p0 : (Int) × (List (List (List UInt32 × (UInt8 × List UInt8)))) × (List UInt32) × (List UInt32) × (Bool) × (List (List (List UInt32 × (UInt8 × List UInt8)))) × (List UInt32) × Unit) _ => ?_
 obtain ⟨l0_0, l0_1, l0_2, l0_3, l0_4, l0_5, l0_6, _⟩ := p0
 refine HO_0 tabO_qs (qelder_R r) [.tmp 2, .tmp 3] [0] 55 Tryz.func17 fun w hG h => ?_
 have h : qelder n l0_0 l0_1 l0_2 l0_3 l0_4 l0_5 l0_6 = some r := h
 unfold qelder at h
 have hT := tabO_qs
 refine Vrs hT [5, 0, 1, 2, 3, 4] ⟨[(1, kP 0 0)], [], [⟨.blk, 29, 1, 7, .c [.s (.k .i64 l0_0), .wh 1, .wh 2, .wh 3, .s (.b l0_4), .wh 4, .wh 5]⟩, ⟨(.dp false), 78, 1, l0_1.length, .d (.sl 80 (.pr (.wo 63) (.pr .u8 (.by 5)))) l0_1⟩, ow 63 l0_2, ow 63 l0_3, ⟨(.dp false), 78, 1, l0_5.length, .d (.sl 80 (.pr (.wo 63) (.pr .u8 (.by 5)))) l0_5⟩, ow 63 l0_6]⟩ ?_
 obtain ⟨r11, g1, h⟩ := bind_some' h
 refine Vgs hT (fT 2 (nWrite_ok n r11) fN) [] [] [0, 1, 2, 3, 4, 5, 6] ⟨[(1, kP 0 0), (4, kH 6), (5, kE 37 r11.2)], [], [⟨.blk, 29, 1, 7, .c [.s (.k .i64 l0_0), .wh 1, .wh 2, .wh 3, .s (.b l0_4), .wh 4, .wh 5]⟩, ⟨(.dp false), 78, 1, l0_1.length, .d (.sl 80 (.pr (.wo 63) (.pr .u8 (.by 5)))) l0_1⟩, ow 63 l0_2, ow 63 l0_3, ⟨(.dp false), 78, 1, l0_5.length, .d (.sl 80 (.pr (.wo 63) (.pr .u8 (.by 5)))) l0_5⟩, ow 63 l0_6, nb 5 r11.1]⟩ (aP g1 aN) ?_
 obtain ⟨r17, g2, h⟩ := bind_some' h
 refine Vgs hT (fT 2 (qnumber_ok n r17) fN) [] [] [0, 1, 2, 3, 4, 5, 6, 7] ⟨[(1, kP 0 0), (4, kH 6), (5, kE 37 r11.2), (6, kH 7), (7, kB r17.2)], [], [⟨.blk, 29, 1, 7, .c [.s (.k .i64 l0_0), .wh 1, .wh 2, .wh 3, .s (.b l0_4), .wh 4, .wh 5]⟩, ⟨(.dp false), 78, 1, l0_1.length, .d (.sl 80 (.pr (.wo 63) (.pr .u8 (.by 5)))) l0_1⟩, ow 63 l0_2, ow 63 l0_3, ⟨(.dp false), 78, 1, l0_5.length, .d (.sl 80 (.pr (.wo 63) (.pr .u8 (.by 5)))) l0_5⟩, ow 63 l0_6, nb 5 r11.1, nb 5 r17.1]⟩ (aP g2 aN) ?_
 refine W_seq ?_
 refine W_seq ?_
 rcases Bool.eq_false_or_eq_true (!((r11.2).isNone)) with g3 | g3
 ·replace h := bif_t h g3
  refine Vg hT fN [(2, true)] [] [6, 7] ⟨[(4, kH 0), (6, kH 1), (42, kB true)], [], [nb 5 r11.1, nb 5 r17.1]⟩ (aP g3 aN) ?_
  refine Vi (true) (fun _ => ?_) (fun hb => by cases hb)
  refine Vrs hT [] ⟨[(2, .c (.nils)), (3, kB false)], [], []⟩ ?_
  refine Vc [.nil 2 5 1 (.b [])] [0] (qelder_R ([], false)) (W_ret ?_)
  exact ⟨.inl rfl, by cases h; rfl⟩
 ·replace h := bif_f h g3
  rcases Bool.eq_false_or_eq_true (!r17.2) with g4 | g4
  ·replace h := bif_t h g4
   refine Vg hT fN [(2, false), (6, true)] [] [6, 7] ⟨[(4, kH 0), (6, kH 1), (42, kB true)], [], [nb 5 r11.1, nb 5 r17.1]⟩ (aP g3 (aP g4 aN)) ?_
   refine Vi (true) (fun _ => ?_) (fun hb => by cases hb)
   refine Vrs hT [] ⟨[(2, .c (.nils)), (3, kB false)], [], []⟩ ?_
   refine Vc [.nil 2 5 1 (.b [])] [0] (qelder_R ([], false)) (W_ret ?_)
   exact ⟨.inl rfl, by cases h; rfl⟩
  ·replace h := bif_f h g4
   rcases Bool.eq_false_or_eq_true (((l0_5.length : Nat) : Int) == 0) with g5 | g5
   ·replace h := bif_t h g5
    refine Vg hT fN [(2, false), (6, false), (12, true)] [] [6, 7] ⟨[(4, kH 0), (6, kH 1), (42, kB true)], [], [nb 5 r11.1, nb 5 r17.1]⟩ (aP g3 (aP g4 (aP g5 aN))) ?_
    refine Vi (true) (fun _ => ?_) (fun hb => by cases hb)
    refine Vrs hT [] ⟨[(2, .c (.nils)), (3, kB false)], [], []⟩ ?_
    refine Vc [.nil 2 5 1 (.b [])] [0] (qelder_R ([], false)) (W_ret ?_)
    exact ⟨.inl rfl, by cases h; rfl⟩
   ·replace h := bif_f h g5
    obtain ⟨r35, g6, h⟩ := bind_some' h
    rcases Bool.eq_false_or_eq_true (r35 == 0) with g7 | g7
    ·replace h := bif_t h g7
     refine Vg hT (fT 15 (pCmp_ok n r35) fN) [(2, false), (6, false), (12, false), (18, true)] [] [6, 7] ⟨[(4, kH 0), (6, kH 1), (42, kB true)], [], [nb 5 r11.1, nb 5 r17.1]⟩ (aP g3 (aP g4 (aP g5 (aP g6 (aP g7 aN))))) ?_
     refine Vi (true) (fun _ => ?_) (fun hb => by cases hb)
     refine Vrs hT [] ⟨[(2, .c (.nils)), (3, kB false)], [], []⟩ ?_
     refine Vc [.nil 2 5 1 (.b [])] [0] (qelder_R ([], false)) (W_ret ?_)
     exact ⟨.inl rfl, by cases h; rfl⟩
    ·replace h := bif_f h g7
     refine Vg hT (fT 15 (pCmp_ok n r35) fN) [(2, false), (6, false), (12, false), (18, false)] [] [6, 7] ⟨[(4, kH 0), (6, kH 1), (42, kB (decide ((22 : Int) < ((r17.1.length : Nat) : Int))))], [], [nb 5 r11.1, nb 5 r17.1]⟩ (aP g3 (aP g4 (aP g5 (aP g6 (aP g7 aN))))) ?_
     refine Vi ((decide ((22 : Int) < ((r17.1.length : Nat) : Int)))) (fun g12 => ?_) (fun g12 => ?_)
     ·replace h := bif_t h g12
      refine Vrs hT [] ⟨[(2, .c (.nils)), (3, kB false)], [], []⟩ ?_
      refine Vc [.nil 2 5 1 (.b [])] [0] (qelder_R ([], false)) (W_ret ?_)
      exact ⟨.inl rfl, by cases h; rfl⟩
     ·replace h := bif_f h g12
      refine W_skip ?_
      obtain ⟨r46, g8, h⟩ := bind_some' h
      obtain ⟨r50, g9, h⟩ := bind_some' h
      obtain ⟨r52, g10, h⟩ := bind_some' h
      obtain ⟨r54, g11, h⟩ := bind_some' h
      refine Vgs hT (fT 3 (qelement_ok n r46) (fT 7 (qelement_ok n r50) (fT 9 (qelement_ok n r52) (fT 11 (qelement_ok n r54) fN)))) [] [] [10] ⟨[(2, kH 0), (3, kB true)], [], [nb 5 r54]⟩ (aP g8 (aP g9 (aP g10 (aP g11 aN)))) ?_
      refine Vc [] [0] (qelder_R (r54, true)) (W_ret ?_)
      exact ⟨.inl rfl, by cases h; rfl⟩
def qAsk_j1_E (d10_1 : List (List UInt8)) : S := ⟨[(10, kH 0)], [], [⟨.row, 32, 1, d10_1.length, .g 1 d10_1.length 1 []⟩, ⟨(.gs true), 32, 1, d10_1.length, .d (.by 5) d10_1⟩]⟩
abbrev qAsk_j1_P (n : Nat) (r : List UInt8 × Option Int) : S → Prop := fun s => ∃ (d10_1 : List (List UInt8)), s = qAsk_j1_E d10_1 ∧ qAsk_j1 n d10_1 = some r
def qAsk_R (r : List UInt8 × Option Int) : S := ⟨[(2, kH 0), (3, kE 37 r.2)], [], [nb 5 r.1]⟩
def qAsk_ct (n : Nat) (r : List UInt8 × Option Int) : Ct := ctc (rSt (lC cI (lC (cD 78 (.sl 80 (.pr (.wo 63) (.pr .u8 (.by 5))))) (lC (cW 63) (lC (cW 63) (lC cBo (lC (cD 78 (.sl 80 (.pr (.wo 63) (.pr .u8 (.by 5))))) (lC (cW 63) lN)))))))).rd fun _ y0 => ct0 fun H => ([qAsk n y0.1 y0.2.1 y0.2.2.1 y0.2.2.2.1 y0.2.2.2.2.1 y0.2.2.2.2.2.1 y0.2.2.2.2.2.2.1 = some r], shA H.length (.t [.c (.wh 0), .c (.s (.er 37 .i64 r.2))]), shH H.length [nb 5 r.1])
theorem qAsk_ok (n : Nat) (r : List UInt8 × Option Int) : FnOk Tryz.prog Tr 6 (qAsk_ct n r) := by
 refine fnok Tryz.func6 ?_
 refine HO_c (rSt (lC cI (lC (cD 78 (.sl 80 (.pr (.wo 63) (.pr .u8 (.by 5))))) (lC (cW 63) (lC (cW 63) (lC cBo (lC (cD 78 (.sl 80 (.pr (.wo 63) (.pr .u8 (.by 5))))) (lC (cW 63) lN)))))))) fun (p0 : (Int) × (List (List (List UInt32 × (UInt8 × List UInt8)))) × (List UInt32) × (List UInt32) × (Bool) × (List (List (List UInt32 × (UInt8 × List UInt8)))) × (List UInt32) × Unit) _ => ?_
 obtain ⟨l0_0, l0_1, l0_2, l0_3, l0_4, l0_5, l0_6, _⟩ := p0
 refine HO_0 tabO_qs (qAsk_R r) [.tmp 2, .tmp 3] [0] 100 Tryz.func6 fun w hG h => ?_
 have h : qAsk n l0_0 l0_1 l0_2 l0_3 l0_4 l0_5 l0_6 = some r := h
 unfold qAsk at h
 have hT := tabO_qs
 refine Vrs hT [5, 0, 1, 2, 3, 4] ⟨[(1, kP 0 0)], [], [⟨.blk, 29, 1, 7, .c [.s (.k .i64 l0_0), .wh 1, .wh 2, .wh 3, .s (.b l0_4), .wh 4, .wh 5]⟩, ⟨(.dp false), 78, 1, l0_1.length, .d (.sl 80 (.pr (.wo 63) (.pr .u8 (.by 5)))) l0_1⟩, ow 63 l0_2, ow 63 l0_3, ⟨(.dp false), 78, 1, l0_5.length, .d (.sl 80 (.pr (.wo 63) (.pr .u8 (.by 5)))) l0_5⟩, ow 63 l0_6]⟩ ?_
 obtain ⟨r16, g1, h⟩ := bind_some' h
 refine Vgs hT (fT 2 (nWrite_ok n r16) fN) [] [] [0, 1, 2, 3, 4, 5, 6] ⟨[(1, kP 0 0), (4, kH 6), (5, kE 37 r16.2)], [], [⟨.blk, 29, 1, 7, .c [.s (.k .i64 l0_0), .wh 1, .wh 2, .wh 3, .s (.b l0_4), .wh 4, .wh 5]⟩, ⟨(.dp false), 78, 1, l0_1.length, .d (.sl 80 (.pr (.wo 63) (.pr .u8 (.by 5)))) l0_1⟩, ow 63 l0_2, ow 63 l0_3, ⟨(.dp false), 78, 1, l0_5.length, .d (.sl 80 (.pr (.wo 63) (.pr .u8 (.by 5)))) l0_5⟩, ow 63 l0_6, nb 5 r16.1]⟩ (aP g1 aN) ?_
 refine W_seq ?_
 refine W_seq ?_
 rcases Bool.eq_false_or_eq_true (!((r16.2).isNone)) with g2 | g2
 ·replace h := bif_t h g2
  refine Vg hT fN [(2, true)] [] [0, 1, 2, 3, 4, 5, 6] ⟨[(1, kP 0 0), (4, kH 6), (42, kB true)], [], [⟨.blk, 29, 1, 7, .c [.s (.k .i64 l0_0), .wh 1, .wh 2, .wh 3, .s (.b l0_4), .wh 4, .wh 5]⟩, ⟨(.dp false), 78, 1, l0_1.length, .d (.sl 80 (.pr (.wo 63) (.pr .u8 (.by 5)))) l0_1⟩, ow 63 l0_2, ow 63 l0_3, ⟨(.dp false), 78, 1, l0_5.length, .d (.sl 80 (.pr (.wo 63) (.pr .u8 (.by 5)))) l0_5⟩, ow 63 l0_6, nb 5 r16.1]⟩ (aP g2 aN) ?_
  refine Vi (true) (fun _ => ?_) (fun hb => by cases hb)
  refine Vrs hT [] ⟨[(2, .c (.nils)), (3, kE 37 (some 1))], [], []⟩ ?_
  refine Vc [.nil 2 5 1 (.b [])] [0] (qAsk_R ([], (some 1))) (W_ret ?_)
  exact ⟨.inl rfl, by cases h; rfl⟩
 ·replace h := bif_f h g2
  rcases Bool.eq_false_or_eq_true (((l0_1.length : Nat) : Int) == 0) with g3 | g3
  ·replace h := bif_t h g3
   refine Vg hT fN [(2, false), (8, true)] [] [0, 1, 2, 3, 4, 5, 6] ⟨[(1, kP 0 0), (4, kH 6), (42, kB true)], [], [⟨.blk, 29, 1, 7, .c [.s (.k .i64 l0_0), .wh 1, .wh 2, .wh 3, .s (.b l0_4), .wh 4, .wh 5]⟩, ⟨(.dp false), 78, 1, l0_1.length, .d (.sl 80 (.pr (.wo 63) (.pr .u8 (.by 5)))) l0_1⟩, ow 63 l0_2, ow 63 l0_3, ⟨(.dp false), 78, 1, l0_5.length, .d (.sl 80 (.pr (.wo 63) (.pr .u8 (.by 5)))) l0_5⟩, ow 63 l0_6, nb 5 r16.1]⟩ (aP g2 (aP g3 aN)) ?_
   refine Vi (true) (fun _ => ?_) (fun hb => by cases hb)
   refine Vrs hT [] ⟨[(2, .c (.nils)), (3, kE 37 (some 1))], [], []⟩ ?_
   refine Vc [.nil 2 5 1 (.b [])] [0] (qAsk_R ([], (some 1))) (W_ret ?_)
   exact ⟨.inl rfl, by cases h; rfl⟩
  ·replace h := bif_f h g3
   rcases Bool.eq_false_or_eq_true (decide (l0_0 < (0 : Int))) with g4 | g4
   ·replace h := bif_t h g4
    refine Vg hT fN [(2, false), (8, false), (13, true)] [] [0, 1, 2, 3, 4, 5, 6] ⟨[(1, kP 0 0), (4, kH 6), (42, kB true)], [], [⟨.blk, 29, 1, 7, .c [.s (.k .i64 l0_0), .wh 1, .wh 2, .wh 3, .s (.b l0_4), .wh 4, .wh 5]⟩, ⟨(.dp false), 78, 1, l0_1.length, .d (.sl 80 (.pr (.wo 63) (.pr .u8 (.by 5)))) l0_1⟩, ow 63 l0_2, ow 63 l0_3, ⟨(.dp false), 78, 1, l0_5.length, .d (.sl 80 (.pr (.wo 63) (.pr .u8 (.by 5)))) l0_5⟩, ow 63 l0_6, nb 5 r16.1]⟩ (aP g2 (aP g3 (aP g4 aN))) ?_
    refine Vi (true) (fun _ => ?_) (fun hb => by cases hb)
    refine Vrs hT [] ⟨[(2, .c (.nils)), (3, kE 37 (some 1))], [], []⟩ ?_
    refine Vc [.nil 2 5 1 (.b [])] [0] (qAsk_R ([], (some 1))) (W_ret ?_)
    exact ⟨.inl rfl, by cases h; rfl⟩
   ·replace h := bif_f h g4
    rcases Bool.eq_false_or_eq_true (decide ((2147483647 : Int) < l0_0)) with g5 | g5
    ·replace h := bif_t h g5
     refine Vg hT fN [(2, false), (8, false), (13, false), (18, true)] [] [0, 1, 2, 3, 4, 5, 6] ⟨[(1, kP 0 0), (4, kH 6), (42, kB true)], [], [⟨.blk, 29, 1, 7, .c [.s (.k .i64 l0_0), .wh 1, .wh 2, .wh 3, .s (.b l0_4), .wh 4, .wh 5]⟩, ⟨(.dp false), 78, 1, l0_1.length, .d (.sl 80 (.pr (.wo 63) (.pr .u8 (.by 5)))) l0_1⟩, ow 63 l0_2, ow 63 l0_3, ⟨(.dp false), 78, 1, l0_5.length, .d (.sl 80 (.pr (.wo 63) (.pr .u8 (.by 5)))) l0_5⟩, ow 63 l0_6, nb 5 r16.1]⟩ (aP g2 (aP g3 (aP g4 (aP g5 aN)))) ?_
     refine Vi (true) (fun _ => ?_) (fun hb => by cases hb)
     refine Vrs hT [] ⟨[(2, .c (.nils)), (3, kE 37 (some 1))], [], []⟩ ?_
     refine Vc [.nil 2 5 1 (.b [])] [0] (qAsk_R ([], (some 1))) (W_ret ?_)
     exact ⟨.inl rfl, by cases h; rfl⟩
    ·replace h := bif_f h g5
     obtain ⟨g6, h⟩ := gd_some h
     obtain ⟨r40, g7, h⟩ := bind_some' h
     refine Vg hT (fT 21 (kCheck_ok n r40) fN) [(2, false), (8, false), (13, false), (18, false)] [] [0, 1, 2, 3, 4, 5, 6] ⟨[(1, kP 0 0), (4, kH 6), (42, kB (!((r40).isNone)))], [], [⟨.blk, 29, 1, 7, .c [.s (.k .i64 l0_0), .wh 1, .wh 2, .wh 3, .s (.b l0_4), .wh 4, .wh 5]⟩, ⟨(.dp false), 78, 1, l0_1.length, .d (.sl 80 (.pr (.wo 63) (.pr .u8 (.by 5)))) l0_1⟩, ow 63 l0_2, ow 63 l0_3, ⟨(.dp false), 78, 1, l0_5.length, .d (.sl 80 (.pr (.wo 63) (.pr .u8 (.by 5)))) l0_5⟩, ow 63 l0_6, nb 5 r16.1]⟩ (aP g2 (aP g3 (aP g4 (aP g5 (aP g6 (aP g7 aN)))))) ?_
     refine Vi ((!((r40).isNone))) (fun g23 => ?_) (fun g23 => ?_)
     ·replace h := bif_t h g23
      refine Vrs hT [] ⟨[(2, .c (.nils)), (3, kE 37 (some 1))], [], []⟩ ?_
      refine Vc [.nil 2 5 1 (.b [])] [0] (qAsk_R ([], (some 1))) (W_ret ?_)
      exact ⟨.inl rfl, by cases h; rfl⟩
     ·replace h := bif_f h g23
      refine W_skip ?_
      obtain ⟨r48, g8, h⟩ := bind_some' h
      refine Vgs hT (fT 3 (qnumber_ok n r48) fN) [] [] [0, 1, 2, 3, 4, 5, 6, 7] ⟨[(1, kP 0 0), (4, kH 6), (6, kH 7)], [], [⟨.blk, 29, 1, 7, .c [.s (.k .i64 l0_0), .wh 1, .wh 2, .wh 3, .s (.b l0_4), .wh 4, .wh 5]⟩, ⟨(.dp false), 78, 1, l0_1.length, .d (.sl 80 (.pr (.wo 63) (.pr .u8 (.by 5)))) l0_1⟩, ow 63 l0_2, ow 63 l0_3, ⟨(.dp false), 78, 1, l0_5.length, .d (.sl 80 (.pr (.wo 63) (.pr .u8 (.by 5)))) l0_5⟩, ow 63 l0_6, nb 5 r16.1, nb 5 r48.1]⟩ (aP g8 aN) ?_
      obtain ⟨r55, g9, h⟩ := bind_some' h
      refine Vgs hT (fT 3 (qnumber_ok n r55) fN) [] [] [0, 1, 2, 3, 4, 5, 6, 7, 8] ⟨[(1, kP 0 0), (4, kH 6), (6, kH 7), (8, kH 8)], [], [⟨.blk, 29, 1, 7, .c [.s (.k .i64 l0_0), .wh 1, .wh 2, .wh 3, .s (.b l0_4), .wh 4, .wh 5]⟩, ⟨(.dp false), 78, 1, l0_1.length, .d (.sl 80 (.pr (.wo 63) (.pr .u8 (.by 5)))) l0_1⟩, ow 63 l0_2, ow 63 l0_3, ⟨(.dp false), 78, 1, l0_5.length, .d (.sl 80 (.pr (.wo 63) (.pr .u8 (.by 5)))) l0_5⟩, ow 63 l0_6, nb 5 r16.1, nb 5 r48.1, nb 5 r55.1]⟩ (aP g9 aN) ?_
      obtain ⟨r60, g10, h⟩ := bind_some' h
      obtain ⟨r62, g11, h⟩ := bind_some' h
      obtain ⟨r65, g12, h⟩ := bind_some' h
      obtain ⟨r69, g13, h⟩ := bind_some' h
      obtain ⟨r71, g14, h⟩ := bind_some' h
      refine Vgs hT (fT 2 (pInt_ok n r60) (fT 4 (qelement_ok n r62) (fT 7 (qelement_ok n r65) (fT 11 (qelement_ok n r69) (fT 13 (qelement_ok n r71) fN))))) [] [] [0, 1, 2, 3, 4, 5, 18, 11, 17] ⟨[(1, kP 0 0), (10, kH 6)], [], [⟨.blk, 29, 1, 7, .c [.s (.k .i64 l0_0), .wh 1, .wh 2, .wh 3, .s (.b l0_4), .wh 4, .wh 5]⟩, ⟨(.dp false), 78, 1, l0_1.length, .d (.sl 80 (.pr (.wo 63) (.pr .u8 (.by 5)))) l0_1⟩, ow 63 l0_2, ow 63 l0_3, ⟨(.dp false), 78, 1, l0_5.length, .d (.sl 80 (.pr (.wo 63) (.pr .u8 (.by 5)))) l0_5⟩, ow 63 l0_6, ⟨.row, 32, 1, 2, .c [.wh 7, .wh 8]⟩, nb 5 r62, nb 5 r71]⟩ (aP g10 (aP g11 (aP g12 (aP g13 (aP g14 aN))))) ?_
      refine W_join (qAsk_j1_P n r) ?_ ?_
      ·rintro _ ⟨d10_1, rfl, h⟩
       unfold qAsk_j1 at h
       refine W_seq ?_
       refine W_cod [.fz 10] [d10_1.length] [] [10] [2] (s' := ⟨[(10, kH 0)], [], [⟨(.dp true), 32, 1, d10_1.length, .d (.by 5) d10_1⟩]⟩) (by kernel_rfl) ?_
       obtain ⟨r99_1, g15, h⟩ := bind_some' h
       refine Vg hT (fT 1 (qelement_ok n r99_1) fN) [] [] [1] ⟨[(2, kH 0), (3, .c (.s (.v .nilIface)))], [], [nb 5 r99_1]⟩ (aP g15 aN) ?_
       refine Vc [.er 3 37 .i64] [0] (qAsk_R (r99_1, none)) (W_ret ?_)
       exact ⟨.inl rfl, by cases h; rfl⟩
      ·refine W_seq ?_
       refine Vr hT [0, 1, 2, 3, 4, 5, 6, 7, 8] ⟨[(1, kP 0 0), (10, kH 6), (74, kB l0_4)], [], [⟨.blk, 29, 1, 7, .c [.s (.k .i64 l0_0), .wh 1, .wh 2, .wh 3, .s (.b l0_4), .wh 4, .wh 5]⟩, ⟨(.dp false), 78, 1, l0_1.length, .d (.sl 80 (.pr (.wo 63) (.pr .u8 (.by 5)))) l0_1⟩, ow 63 l0_2, ow 63 l0_3, ⟨(.dp false), 78, 1, l0_5.length, .d (.sl 80 (.pr (.wo 63) (.pr .u8 (.by 5)))) l0_5⟩, ow 63 l0_6, ⟨.row, 32, 1, 2, .c [.wh 7, .wh 8]⟩, nb 5 r62, nb 5 r71]⟩ ?_
       refine Vi (l0_4) (fun g22 => ?_) (fun g22 => ?_)
       ·replace h := bif_t h g22
        obtain ⟨r77, g16, h⟩ := bind_some' h
        refine Vgs hT (fT 1 (qelder_ok n r77) fN) [] [] [6, 7, 8, 9] ⟨[(10, kH 0), (11, kH 3), (12, kB r77.2)], [], [⟨.row, 32, 1, 2, .c [.wh 1, .wh 2]⟩, nb 5 r62, nb 5 r71, nb 5 r77.1]⟩ (aP g16 aN) ?_
        refine W_seq ?_
        refine Vrs hT [0, 1, 2, 3] ⟨[(10, kH 0), (11, kH 3), (81, kB (!r77.2))], [], [⟨.row, 32, 1, 2, .c [.wh 1, .wh 2]⟩, nb 5 r62, nb 5 r71, nb 5 r77.1]⟩ ?_
        refine Vi ((!r77.2)) (fun g18 => ?_) (fun g18 => ?_)
        ·replace h := bif_t h g18
         refine Vrs hT [] ⟨[(2, .c (.nils)), (3, kE 37 (some 1))], [], []⟩ ?_
         refine Vc [.nil 2 5 1 (.b [])] [0] (qAsk_R ([], (some 1))) (W_ret ?_)
         exact ⟨.inl rfl, by cases h; rfl⟩
        ·replace h := bif_f h g18
         refine Vc [] [0, 1, 2, 3] ⟨[(10, kH 0), (11, kH 3)], [], [⟨.row, 32, 1, 2, .c [.wh 1, .wh 2]⟩, nb 5 r62, nb 5 r71, nb 5 r77.1]⟩ (W_skip ?_)
         obtain ⟨g17, h⟩ := gd_some h
         refine W_weak ?_
         refine Vg hT fN [] [] [5, 1, 2, 3] ⟨[(10, kH 0)], [], [⟨.row, 32, 1, 3, .c [.wh 1, .wh 2, .wh 3]⟩, nb 5 r62, nb 5 r71, nb 5 r77.1]⟩ (aP g17 aN) ?_
         refine ⟨[.gc 0 (.by 5), .aq 0 [1], .aq 0 [2], .aq 0 [3]], [0, 1, 2], [], [10], [0, 7], (qAsk_j1_E ((([] ++ [r62]) ++ [r71]) ++ [r77.1])), (by kernel_rfl), ?_⟩
         exact ⟨_, rfl, h⟩
       ·replace h := bif_f h g22
        refine W_seq ?_
        rcases Bool.eq_false_or_eq_true (decide ((0 : Int) < ((l0_5.length : Nat) : Int))) with g19 | g19
        ·replace h := bif_t h g19
         refine Vg hT fN [(4, true)] [] [6, 7, 8] ⟨[(10, kH 0), (96, kB true)], [], [⟨.row, 32, 1, 2, .c [.wh 1, .wh 2]⟩, nb 5 r62, nb 5 r71]⟩ (aP g19 aN) ?_
         refine Vi (true) (fun _ => ?_) (fun hb => by cases hb)
         refine Vrs hT [] ⟨[(2, .c (.nils)), (3, kE 37 (some 1))], [], []⟩ ?_
         refine Vc [.nil 2 5 1 (.b [])] [0] (qAsk_R ([], (some 1))) (W_ret ?_)
         exact ⟨.inl rfl, by cases h; rfl⟩
        ·replace h := bif_f h g19
         obtain ⟨r94, g20, h⟩ := bind_some' h
         refine Vg hT (fT 7 (pCmp_ok n r94) fN) [(4, false)] [] [6, 7, 8] ⟨[(10, kH 0), (96, kB (r94 != 0))], [], [⟨.row, 32, 1, 2, .c [.wh 1, .wh 2]⟩, nb 5 r62, nb 5 r71]⟩ (aP g19 (aP g20 aN)) ?_
         refine Vi ((r94 != 0)) (fun g21 => ?_) (fun g21 => ?_)
         ·replace h := bif_t h g21
          refine Vrs hT [] ⟨[(2, .c (.nils)), (3, kE 37 (some 1))], [], []⟩ ?_
          refine Vc [.nil 2 5 1 (.b [])] [0] (qAsk_R ([], (some 1))) (W_ret ?_)
          exact ⟨.inl rfl, by cases h; rfl⟩
         ·replace h := bif_f h g21
          refine W_cod [.gc 0 (.by 5), .aq 0 [1], .aq 0 [2]] [0, 1] [] [10] [0, 5] (s' := (qAsk_j1_E (([] ++ [r62]) ++ [r71]))) (by kernel_rfl) (W_skip ?_)
          exact ⟨_, rfl, h⟩
def qel10_R (r : List UInt8) : S := ⟨[(4, kH 0)], [], [nb 5 r]⟩
def qel10_ct (n : Nat) (r : List UInt8) : Ct := ctc rU8.rd fun _ l0 => ctc (rB 5).rd fun _ l1 => ct0 fun H => ([qel10 n l0 l1 = some r], shA H.length (kH 0), shH H.length [nb 5 r])
theorem qel10_ok (n : Nat) (r : List UInt8) : FnOk Tryz.prog Tr 54 (qel10_ct n r) := by
 refine fnok Tryz.func54 ?_
 refine HO_c rU8 fun l0 _ => HO_c (rB 5) fun l1 _ => HO_0 tabO_qs (qel10_R r) [.tmp 4] [0] 8 Tryz.func54 fun w hG h => ?_
 unfold qel10 at h
 have hT := tabO_qs
 refine Vrs hT [0] ⟨[(0, kU l0), (1, kH 0)], [], [ob 5 l1]⟩ ?_
 obtain ⟨r7, g1, h⟩ := bind_some' h
 refine Vgs hT (fT 2 (rEl_ok n r7) fN) [] [] [1] ⟨[(4, kH 0)], [], [nb 5 r7]⟩ (aP g1 aN) ?_
 refine Vc [] [0] (qel10_R r7) (W_ret ?_)
 exact ⟨.inl rfl, by cases h; rfl⟩
def qBig10_R (r : List UInt8) : S := ⟨[(2, kH 0)], [], [nb 5 r]⟩
def qBig10_ct (n : Nat) (r : List UInt8) : Ct := ctc (rW 63).rd fun _ l0 => ct0 fun H => ([qBig10 n l0 = some r], shA H.length (kH 0), shH H.length [nb 5 r])
theorem qBig10_ok (n : Nat) (r : List UInt8) : FnOk Tryz.prog Tr 23 (qBig10_ct n r) := by
 refine fnok Tryz.func23 ?_
 refine HO_c (rW 63) fun l0 _ => HO_0 tabO_qs (qBig10_R r) [.tmp 2] [0] 6 Tryz.func23 fun w hG h => ?_
 unfold qBig10 at h
 have hT := tabO_qs
 refine Vrs hT [0] ⟨[(0, kH 0)], [], [ow 63 l0]⟩ ?_
 obtain ⟨r4, g1, h⟩ := bind_some' h
 obtain ⟨r5, g2, h⟩ := bind_some' h
 refine Vgs hT (fT 1 (rBig_ok n r4) (fT 2 (qel10_ok n r5) fN)) [] [] [2] ⟨[(2, kH 0)], [], [nb 5 r5]⟩ (aP g1 (aP g2 aN)) ?_
 refine Vc [] [0] (qBig10_R r5) (W_ret ?_)
 exact ⟨.inl rfl, by cases h; rfl⟩
def qel13_R (r : List UInt8) : S := ⟨[(4, kH 0)], [], [nb 5 r]⟩
def qel13_ct (n : Nat) (r : List UInt8) : Ct := ctc rU8.rd fun _ l0 => ctc (rB 5).rd fun _ l1 => ct0 fun H => ([qel13 n l0 l1 = some r], shA H.length (kH 0), shH H.length [nb 5 r])
theorem qel13_ok (n : Nat) (r : List UInt8) : FnOk Tryz.prog Tr 25 (qel13_ct n r) := by
 refine fnok Tryz.func25 ?_
 refine HO_c rU8 fun l0 _ => HO_c (rB 5) fun l1 _ => HO_0 tabO_qs (qel13_R r) [.tmp 4] [0] 8 Tryz.func25 fun w hG h => ?_
 unfold qel13 at h
 have hT := tabO_qs
 refine Vrs hT [0] ⟨[(0, kU l0), (1, kH 0)], [], [ob 5 l1]⟩ ?_
 obtain ⟨r7, g1, h⟩ := bind_some' h
 refine Vgs hT (fT 2 (rEl_ok n r7) fN) [] [] [1] ⟨[(4, kH 0)], [], [nb 5 r7]⟩ (aP g1 aN) ?_
 refine Vc [] [0] (qel13_R r7) (W_ret ?_)
 exact ⟨.inl rfl, by cases h; rfl⟩
def qsmall_R (r : List UInt8) : S := ⟨[(2, kH 0)], [], [nb 5 r]⟩
def qsmall_ct (n : Nat) (r : List UInt8) : Ct := ctc rI.rd fun _ l0 => ct0 fun H => ([qsmall n l0 = some r], shA H.length (kH 0), shH H.length [nb 5 r])
theorem qsmall_ok (n : Nat) (r : List UInt8) : FnOk Tryz.prog Tr 24 (qsmall_ct n r) := by
 refine fnok Tryz.func24 ?_
 refine HO_c rI fun l0 _ => HO_0 tabO_qs (qsmall_R r) [.tmp 2] [0] 14 Tryz.func24 fun w hG h => ?_
 unfold qsmall at h
 have hT := tabO_qs
 refine Vrs hT [] ⟨[(0, kI l0)], [], []⟩ ?_
 obtain ⟨g1, g2, g3, h⟩ := gd3 h
 obtain ⟨r10, g4, h⟩ := bind_some' h
 obtain ⟨r11, g5, h⟩ := bind_some' h
 obtain ⟨r12, g6, h⟩ := bind_some' h
 obtain ⟨r13, g7, h⟩ := bind_some' h
 refine Vgs hT (fT 7 (rMul_ok n r10) (fT 8 (rAdd_ok n r11) (fT 9 (rTo_ok n r12) (fT 10 (qBig10_ok n r13) fN)))) [] [] [6] ⟨[(2, kH 0)], [], [nb 5 r13]⟩ (aP g1 (aP g2 (aP g3 (aP g4 (aP g5 (aP g6 (aP g7 aN))))))) ?_
 refine Vc [] [0] (qsmall_R r13) (W_ret ?_)
 exact ⟨.inl rfl, by cases h; rfl⟩
def qSerial_R (r : Bool) : S := ⟨[(2, kB r)], [], []⟩
def qSerial_ct (n : Nat) (r : Bool) : Ct := ctc (rW 63).rd fun _ l0 => ct0 fun H => ([qSerial n l0 = some r], shA H.length (kB r), shH H.length [])
theorem qSerial_ok (n : Nat) (r : Bool) : FnOk Tryz.prog Tr 22 (qSerial_ct n r) := by
 refine fnok Tryz.func22 ?_
 refine HO_c (rW 63) fun l0 _ => HO_0 tabO_qs (qSerial_R r) [.tmp 2] [] 20 Tryz.func22 fun w hG h => ?_
 unfold qSerial at h
 have hT := tabO_qs
 refine Vrs hT [0] ⟨[(0, kH 0)], [], [ow 63 l0]⟩ ?_
 obtain ⟨r5, g1, h⟩ := bind_some' h
 refine Vgs hT (fT 1 (rOf_ok n r5) fN) [] [] [0, 1] ⟨[(0, kH 0), (3, kH 1)], [], [ow 63 l0, ⟨(.ro true), 3, 1, r5.2, .z r5.1⟩]⟩ (aP g1 aN) ?_
 refine W_seq ?_
 rcases Bool.eq_false_or_eq_true (decide ((0 : Int) < ((r5.2 : Nat) : Int))) with g2 | g2
 ·replace h := bif_t h g2
  obtain ⟨r11, g3, h⟩ := bind_some' h
  rcases Bool.eq_false_or_eq_true (decide (r11 ≤ (20 : Int))) with g4 | g4
  ·replace h := bif_t h g4
   obtain ⟨r16, g5, h⟩ := bind_some' h
   refine Vg hT (fT 5 (rSize_ok n r11) (fT 10 (rBig_ok n r16) fN)) [(3, true), (8, true)] [] [] ⟨[(2, kB (decide (((r16.2 : Nat) : Int) ≤ (20 : Int))))], [], []⟩ (aP g2 (aP g3 (aP g4 (aP g5 aN)))) ?_
   refine Vc [] [] (qSerial_R (decide (((r16.2 : Nat) : Int) ≤ (20 : Int)))) (W_ret ?_)
   exact ⟨.inl rfl, by cases h; rfl⟩
  ·replace h := bif_f h g4
   refine Vg hT (fT 5 (rSize_ok n r11) fN) [(3, true), (8, false)] [] [] ⟨[(2, kB false)], [], []⟩ (aP g2 (aP g3 (aP g4 aN))) ?_
   refine Vc [] [] (qSerial_R false) (W_ret ?_)
   exact ⟨.inl rfl, by cases h; rfl⟩
 ·replace h := bif_f h g2
  refine Vg hT fN [(3, false)] [] [] ⟨[(2, kB false)], [], []⟩ (aP g2 aN) ?_
  refine Vc [] [] (qSerial_R false) (W_ret ?_)
  exact ⟨.inl rfl, by cases h; rfl⟩
def qMay_R (r : Bool) : S := ⟨[(2, kB r)], [], []⟩
def qMay_ct (n : Nat) (r : Bool) : Ct := ctc (rSt (lC cI (lC (cD 78 (.sl 80 (.pr (.wo 63) (.pr .u8 (.by 5))))) (lC (cW 63) (lC (cW 63) (lC cBo (lC (cD 78 (.sl 80 (.pr (.wo 63) (.pr .u8 (.by 5))))) (lC (cW 63) lN)))))))).rd fun _ y0 => ct0 fun H => ([qMay n y0.1 y0.2.1 y0.2.2.1 y0.2.2.2.1 y0.2.2.2.2.1 y0.2.2.2.2.2.1 y0.2.2.2.2.2.2.1 = some r], shA H.length (kB r), shH H.length [])
theorem qMay_ok (n : Nat) (r : Bool) : FnOk Tryz.prog Tr 7 (qMay_ct n r) := by
 refine fnok Tryz.func7 ?_
 refine HO_c (rSt (lC cI (lC (cD 78 (.sl 80 (.pr (.wo 63) (.pr .u8 (.by 5))))) (lC (cW 63) (lC (cW 63) (lC cBo (lC (cD 78 (.sl 80 (.pr (.wo 63) (.pr .u8 (.by 5))))) (lC (cW 63) lN)))))))) fun (p0 : (Int) × (List (List (List UInt32 × (UInt8 × List UInt8)))) × (List UInt32) × (List UInt32) × (Bool) × (List (List (List UInt32 × (UInt8 × List UInt8)))) × (List UInt32) × Unit) _ => ?_
 obtain ⟨l0_0, l0_1, l0_2, l0_3, l0_4, l0_5, l0_6, _⟩ := p0
 refine HO_0 tabO_qs (qMay_R r) [.tmp 2] [] 69 Tryz.func7 fun w hG h => ?_
 have h : qMay n l0_0 l0_1 l0_2 l0_3 l0_4 l0_5 l0_6 = some r := h
 unfold qMay at h
 have hT := tabO_qs
 refine Vrs hT [5, 0, 1, 2, 3, 4] ⟨[(1, kP 0 0)], [], [⟨.blk, 29, 1, 7, .c [.s (.k .i64 l0_0), .wh 1, .wh 2, .wh 3, .s (.b l0_4), .wh 4, .wh 5]⟩, ⟨(.dp false), 78, 1, l0_1.length, .d (.sl 80 (.pr (.wo 63) (.pr .u8 (.by 5)))) l0_1⟩, ow 63 l0_2, ow 63 l0_3, ⟨(.dp false), 78, 1, l0_5.length, .d (.sl 80 (.pr (.wo 63) (.pr .u8 (.by 5)))) l0_5⟩, ow 63 l0_6]⟩ ?_
 obtain ⟨r10, g1, h⟩ := bind_some' h
 refine Vgs hT (fT 2 (r9Write_ok n r10) fN) [] [] [0, 1, 2, 3, 4, 5] ⟨[(1, kP 0 0), (4, kB r10.2)], [], [⟨.blk, 29, 1, 7, .c [.s (.k .i64 l0_0), .wh 1, .wh 2, .wh 3, .s (.b l0_4), .wh 4, .wh 5]⟩, ⟨(.dp false), 78, 1, l0_1.length, .d (.sl 80 (.pr (.wo 63) (.pr .u8 (.by 5)))) l0_1⟩, ow 63 l0_2, ow 63 l0_3, ⟨(.dp false), 78, 1, l0_5.length, .d (.sl 80 (.pr (.wo 63) (.pr .u8 (.by 5)))) l0_5⟩, ow 63 l0_6]⟩ (aP g1 aN) ?_
 refine W_seq ?_
 refine W_seq ?_
 rcases Bool.eq_false_or_eq_true (!r10.2) with g2 | g2
 ·replace h := bif_t h g2
  refine Vg hT fN [(2, true)] [] [0, 1, 2, 3, 4, 5] ⟨[(1, kP 0 0), (36, kB true)], [], [⟨.blk, 29, 1, 7, .c [.s (.k .i64 l0_0), .wh 1, .wh 2, .wh 3, .s (.b l0_4), .wh 4, .wh 5]⟩, ⟨(.dp false), 78, 1, l0_1.length, .d (.sl 80 (.pr (.wo 63) (.pr .u8 (.by 5)))) l0_1⟩, ow 63 l0_2, ow 63 l0_3, ⟨(.dp false), 78, 1, l0_5.length, .d (.sl 80 (.pr (.wo 63) (.pr .u8 (.by 5)))) l0_5⟩, ow 63 l0_6]⟩ (aP g2 aN) ?_
  refine Vi (true) (fun _ => ?_) (fun hb => by cases hb)
  refine Vrs hT [] ⟨[(2, kB false)], [], []⟩ ?_
  refine Vc [] [] (qMay_R false) (W_ret ?_)
  exact ⟨.inl rfl, by cases h; rfl⟩
 ·replace h := bif_f h g2
  rcases Bool.eq_false_or_eq_true (((l0_1.length : Nat) : Int) == 0) with g3 | g3
  ·replace h := bif_t h g3
   refine Vg hT fN [(2, false), (8, true)] [] [0, 1, 2, 3, 4, 5] ⟨[(1, kP 0 0), (36, kB true)], [], [⟨.blk, 29, 1, 7, .c [.s (.k .i64 l0_0), .wh 1, .wh 2, .wh 3, .s (.b l0_4), .wh 4, .wh 5]⟩, ⟨(.dp false), 78, 1, l0_1.length, .d (.sl 80 (.pr (.wo 63) (.pr .u8 (.by 5)))) l0_1⟩, ow 63 l0_2, ow 63 l0_3, ⟨(.dp false), 78, 1, l0_5.length, .d (.sl 80 (.pr (.wo 63) (.pr .u8 (.by 5)))) l0_5⟩, ow 63 l0_6]⟩ (aP g2 (aP g3 aN)) ?_
   refine Vi (true) (fun _ => ?_) (fun hb => by cases hb)
   refine Vrs hT [] ⟨[(2, kB false)], [], []⟩ ?_
   refine Vc [] [] (qMay_R false) (W_ret ?_)
   exact ⟨.inl rfl, by cases h; rfl⟩
  ·replace h := bif_f h g3
   rcases Bool.eq_false_or_eq_true (decide (l0_0 < (0 : Int))) with g4 | g4
   ·replace h := bif_t h g4
    refine Vg hT fN [(2, false), (8, false), (13, true)] [] [0, 1, 2, 3, 4, 5] ⟨[(1, kP 0 0), (36, kB true)], [], [⟨.blk, 29, 1, 7, .c [.s (.k .i64 l0_0), .wh 1, .wh 2, .wh 3, .s (.b l0_4), .wh 4, .wh 5]⟩, ⟨(.dp false), 78, 1, l0_1.length, .d (.sl 80 (.pr (.wo 63) (.pr .u8 (.by 5)))) l0_1⟩, ow 63 l0_2, ow 63 l0_3, ⟨(.dp false), 78, 1, l0_5.length, .d (.sl 80 (.pr (.wo 63) (.pr .u8 (.by 5)))) l0_5⟩, ow 63 l0_6]⟩ (aP g2 (aP g3 (aP g4 aN))) ?_
    refine Vi (true) (fun _ => ?_) (fun hb => by cases hb)
    refine Vrs hT [] ⟨[(2, kB false)], [], []⟩ ?_
    refine Vc [] [] (qMay_R false) (W_ret ?_)
    exact ⟨.inl rfl, by cases h; rfl⟩
   ·replace h := bif_f h g4
    rcases Bool.eq_false_or_eq_true (decide ((2147483647 : Int) < l0_0)) with g5 | g5
    ·replace h := bif_t h g5
     refine Vg hT fN [(2, false), (8, false), (13, false), (18, true)] [] [0, 1, 2, 3, 4, 5] ⟨[(1, kP 0 0), (36, kB true)], [], [⟨.blk, 29, 1, 7, .c [.s (.k .i64 l0_0), .wh 1, .wh 2, .wh 3, .s (.b l0_4), .wh 4, .wh 5]⟩, ⟨(.dp false), 78, 1, l0_1.length, .d (.sl 80 (.pr (.wo 63) (.pr .u8 (.by 5)))) l0_1⟩, ow 63 l0_2, ow 63 l0_3, ⟨(.dp false), 78, 1, l0_5.length, .d (.sl 80 (.pr (.wo 63) (.pr .u8 (.by 5)))) l0_5⟩, ow 63 l0_6]⟩ (aP g2 (aP g3 (aP g4 (aP g5 aN)))) ?_
     refine Vi (true) (fun _ => ?_) (fun hb => by cases hb)
     refine Vrs hT [] ⟨[(2, kB false)], [], []⟩ ?_
     refine Vc [] [] (qMay_R false) (W_ret ?_)
     exact ⟨.inl rfl, by cases h; rfl⟩
    ·replace h := bif_f h g5
     obtain ⟨g6, h⟩ := gd_some h
     obtain ⟨r34, g7, h⟩ := bind_some' h
     refine Vg hT (fT 21 (qPublic_ok n r34) fN) [(2, false), (8, false), (13, false), (18, false)] [] [0, 1, 2, 3, 4, 5] ⟨[(1, kP 0 0), (36, kB (!r34))], [], [⟨.blk, 29, 1, 7, .c [.s (.k .i64 l0_0), .wh 1, .wh 2, .wh 3, .s (.b l0_4), .wh 4, .wh 5]⟩, ⟨(.dp false), 78, 1, l0_1.length, .d (.sl 80 (.pr (.wo 63) (.pr .u8 (.by 5)))) l0_1⟩, ow 63 l0_2, ow 63 l0_3, ⟨(.dp false), 78, 1, l0_5.length, .d (.sl 80 (.pr (.wo 63) (.pr .u8 (.by 5)))) l0_5⟩, ow 63 l0_6]⟩ (aP g2 (aP g3 (aP g4 (aP g5 (aP g6 (aP g7 aN)))))) ?_
     refine Vi ((!r34)) (fun g15 => ?_) (fun g15 => ?_)
     ·replace h := bif_t h g15
      refine Vrs hT [] ⟨[(2, kB false)], [], []⟩ ?_
      refine Vc [] [] (qMay_R false) (W_ret ?_)
      exact ⟨.inl rfl, by cases h; rfl⟩
     ·replace h := bif_f h g15
      refine W_skip ?_
      refine W_seq ?_
      refine Vrs hT [0, 1, 2, 3, 4, 5] ⟨[(1, kP 0 0), (39, kB (!l0_4))], [], [⟨.blk, 29, 1, 7, .c [.s (.k .i64 l0_0), .wh 1, .wh 2, .wh 3, .s (.b l0_4), .wh 4, .wh 5]⟩, ⟨(.dp false), 78, 1, l0_1.length, .d (.sl 80 (.pr (.wo 63) (.pr .u8 (.by 5)))) l0_1⟩, ow 63 l0_2, ow 63 l0_3, ⟨(.dp false), 78, 1, l0_5.length, .d (.sl 80 (.pr (.wo 63) (.pr .u8 (.by 5)))) l0_5⟩, ow 63 l0_6]⟩ ?_
      refine Vi ((!l0_4)) (fun g14 => ?_) (fun g14 => ?_)
      ·replace h := bif_t h g14
       refine W_seq ?_
       rcases Bool.eq_false_or_eq_true (((l0_5.length : Nat) : Int) == 0) with g8 | g8
       ·replace h := bif_t h g8
        obtain ⟨r47, g9, h⟩ := bind_some' h
        refine Vg hT (fT 7 (rOf_ok n r47) fN) [(4, true)] [] [] ⟨[(2, kB (((r47.2 : Nat) : Int) == 0))], [], []⟩ (aP g8 (aP g9 aN)) ?_
        refine Vc [] [] (qMay_R (((r47.2 : Nat) : Int) == 0)) (W_ret ?_)
        exact ⟨.inl rfl, by cases h; rfl⟩
       ·replace h := bif_f h g8
        refine Vg hT fN [(4, false)] [] [] ⟨[(2, kB false)], [], []⟩ (aP g8 aN) ?_
        refine Vc [] [] (qMay_R false) (W_ret ?_)
        exact ⟨.inl rfl, by cases h; rfl⟩
      ·replace h := bif_f h g14
       refine W_skip ?_
       obtain ⟨r54, g10, h⟩ := bind_some' h
       refine Vgs hT (fT 2 (r9Write_ok n r54) fN) [] [] [0, 1, 2, 3, 4, 5] ⟨[(1, kP 0 0), (6, kB r54.2)], [], [⟨.blk, 29, 1, 7, .c [.s (.k .i64 l0_0), .wh 1, .wh 2, .wh 3, .s (.b l0_4), .wh 4, .wh 5]⟩, ⟨(.dp false), 78, 1, l0_1.length, .d (.sl 80 (.pr (.wo 63) (.pr .u8 (.by 5)))) l0_1⟩, ow 63 l0_2, ow 63 l0_3, ⟨(.dp false), 78, 1, l0_5.length, .d (.sl 80 (.pr (.wo 63) (.pr .u8 (.by 5)))) l0_5⟩, ow 63 l0_6]⟩ (aP g10 aN) ?_
       refine W_seq ?_
       rcases Bool.eq_false_or_eq_true r54.2 with g11 | g11
       ·replace h := bif_t h g11
        rcases Bool.eq_false_or_eq_true (decide ((0 : Int) < ((l0_5.length : Nat) : Int))) with g12 | g12
        ·replace h := bif_t h g12
         obtain ⟨r67, g13, h⟩ := bind_some' h
         refine Vg hT (fT 10 (qSerial_ok n r67) fN) [(1, true), (7, true)] [] [] ⟨[(2, kB r67)], [], []⟩ (aP g11 (aP g12 (aP g13 aN))) ?_
         refine Vc [] [] (qMay_R r67) (W_ret ?_)
         exact ⟨.inl rfl, by cases h; rfl⟩
        ·replace h := bif_f h g12
         refine Vg hT fN [(1, true), (7, false)] [] [] ⟨[(2, kB false)], [], []⟩ (aP g11 (aP g12 aN)) ?_
         refine Vc [] [] (qMay_R false) (W_ret ?_)
         exact ⟨.inl rfl, by cases h; rfl⟩
       ·replace h := bif_f h g11
        refine Vg hT fN [(1, false)] [] [] ⟨[(2, kB false)], [], []⟩ (aP g11 aN) ?_
        refine Vc [] [] (qMay_R false) (W_ret ?_)
        exact ⟨.inl rfl, by cases h; rfl⟩
def qAsk13_j1_E (l6_1 : List UInt8) : S := ⟨[(6, kH 0)], [], [nb 5 l6_1]⟩
abbrev qAsk13_j1_P (n : Nat) (r : List UInt8) : S → Prop := fun s => ∃ (l6_1 : List UInt8), s = qAsk13_j1_E l6_1 ∧ qAsk13_j1 n l6_1 = some r
def qAsk13_R (r : List UInt8) : S := ⟨[(2, kH 0)], [], [nb 5 r]⟩
def qAsk13_ct (n : Nat) (r : List UInt8) : Ct := ctc (rSt (lC cI (lC (cD 78 (.sl 80 (.pr (.wo 63) (.pr .u8 (.by 5))))) (lC (cW 63) (lC (cW 63) (lC cBo (lC (cD 78 (.sl 80 (.pr (.wo 63) (.pr .u8 (.by 5))))) (lC (cW 63) lN)))))))).rd fun _ y0 => ct0 fun H => ([qAsk13 n y0.1 y0.2.1 y0.2.2.1 y0.2.2.2.1 y0.2.2.2.2.1 y0.2.2.2.2.2.1 y0.2.2.2.2.2.2.1 = some r], shA H.length (kH 0), shH H.length [nb 5 r])
theorem qAsk13_ok (n : Nat) (r : List UInt8) : FnOk Tryz.prog Tr 8 (qAsk13_ct n r) := by
 refine fnok Tryz.func8 ?_
 refine HO_c (rSt (lC cI (lC (cD 78 (.sl 80 (.pr (.wo 63) (.pr .u8 (.by 5))))) (lC (cW 63) (lC (cW 63) (lC cBo (lC (cD 78 (.sl 80 (.pr (.wo 63) (.pr .u8 (.by 5))))) (lC (cW 63) lN)))))))) fun (p0 : (Int) × (List (List (List UInt32 × (UInt8 × List UInt8)))) × (List UInt32) × (List UInt32) × (Bool) × (List (List (List UInt32 × (UInt8 × List UInt8)))) × (List UInt32) × Unit) _ => ?_
 obtain ⟨l0_0, l0_1, l0_2, l0_3, l0_4, l0_5, l0_6, _⟩ := p0
 refine HO_0 tabO_qs (qAsk13_R r) [.tmp 2] [0] 62 Tryz.func8 fun w hG h => ?_
 have h : qAsk13 n l0_0 l0_1 l0_2 l0_3 l0_4 l0_5 l0_6 = some r := h
 unfold qAsk13 at h
 have hT := tabO_qs
 refine Vrs hT [5, 0, 1, 2, 3, 4] ⟨[(1, kP 0 0)], [], [⟨.blk, 29, 1, 7, .c [.s (.k .i64 l0_0), .wh 1, .wh 2, .wh 3, .s (.b l0_4), .wh 4, .wh 5]⟩, ⟨(.dp false), 78, 1, l0_1.length, .d (.sl 80 (.pr (.wo 63) (.pr .u8 (.by 5)))) l0_1⟩, ow 63 l0_2, ow 63 l0_3, ⟨(.dp false), 78, 1, l0_5.length, .d (.sl 80 (.pr (.wo 63) (.pr .u8 (.by 5)))) l0_5⟩, ow 63 l0_6]⟩ ?_
 obtain ⟨r14, g1, h⟩ := bind_some' h
 refine Vgs hT (fT 2 (r9Write_ok n r14) fN) [] [] [0, 1, 2, 3, 4, 5, 6] ⟨[(1, kP 0 0), (3, kH 6)], [], [⟨.blk, 29, 1, 7, .c [.s (.k .i64 l0_0), .wh 1, .wh 2, .wh 3, .s (.b l0_4), .wh 4, .wh 5]⟩, ⟨(.dp false), 78, 1, l0_1.length, .d (.sl 80 (.pr (.wo 63) (.pr .u8 (.by 5)))) l0_1⟩, ow 63 l0_2, ow 63 l0_3, ⟨(.dp false), 78, 1, l0_5.length, .d (.sl 80 (.pr (.wo 63) (.pr .u8 (.by 5)))) l0_5⟩, ow 63 l0_6, nb 5 r14.1]⟩ (aP g1 aN) ?_
 obtain ⟨r20, g2, h⟩ := bind_some' h
 obtain ⟨r24, g3, h⟩ := bind_some' h
 obtain ⟨g4, h⟩ := gd_some h
 refine Vds hT (fT 3 (qBig10_ok n r20) (fT 7 (qBig10_ok n r24) fN)) 7 [] [(1, false), (3, false), (20, false), (23, false)] [] [0, 1, 2, 3, 4, 5, 6, 9] ⟨[(1, kP 0 0), (3, kH 6), (5, kH 7)], [], [⟨.blk, 29, 1, 7, .c [.s (.k .i64 l0_0), .wh 1, .wh 2, .wh 3, .s (.b l0_4), .wh 4, .wh 5]⟩, ⟨(.dp false), 78, 1, l0_1.length, .d (.sl 80 (.pr (.wo 63) (.pr .u8 (.by 5)))) l0_1⟩, ow 63 l0_2, ow 63 l0_3, ⟨(.dp false), 78, 1, l0_5.length, .d (.sl 80 (.pr (.wo 63) (.pr .u8 (.by 5)))) l0_5⟩, ow 63 l0_6, nb 5 r14.1, nb 5 (r20 ++ r24)]⟩ (aP g2 (aP g3 (aP g4 aN))) ?_
 obtain ⟨r28, g5, h⟩ := bind_some' h
 obtain ⟨r30, g6, h⟩ := bind_some' h
 obtain ⟨r32, g7, h⟩ := bind_some' h
 obtain ⟨g8, h⟩ := gd_some h
 obtain ⟨r34, g9, h⟩ := bind_some' h
 obtain ⟨g10, h⟩ := gd_some h
 refine Vgs hT (fT 2 (qsmall_ok n r28) (fT 4 (qel13_ok n r30) (fT 6 (qel13_ok n r32) (fT 8 (qel13_ok n r34) fN)))) [] [] [0, 1, 2, 3, 4, 5, 13] ⟨[(1, kP 0 0), (6, kH 6)], [], [⟨.blk, 29, 1, 7, .c [.s (.k .i64 l0_0), .wh 1, .wh 2, .wh 3, .s (.b l0_4), .wh 4, .wh 5]⟩, ⟨(.dp false), 78, 1, l0_1.length, .d (.sl 80 (.pr (.wo 63) (.pr .u8 (.by 5)))) l0_1⟩, ow 63 l0_2, ow 63 l0_3, ⟨(.dp false), 78, 1, l0_5.length, .d (.sl 80 (.pr (.wo 63) (.pr .u8 (.by 5)))) l0_5⟩, ow 63 l0_6, nb 5 (r28 ++ r34)]⟩ (aP g5 (aP g6 (aP g7 (aP g8 (aP g9 (aP g10 aN)))))) ?_
 refine W_join (qAsk13_j1_P n r) ?_ ?_
 ·rintro _ ⟨l6_1, rfl, h⟩
  unfold qAsk13_j1 at h
  obtain ⟨r61_1, g11, h⟩ := bind_some' h
  refine Vgs hT (fT 1 (qel13_ok n r61_1) fN) [] [] [1] ⟨[(2, kH 0)], [], [nb 5 r61_1]⟩ (aP g11 aN) ?_
  refine Vc [] [0] (qAsk13_R r61_1) (W_ret ?_)
  exact ⟨.inl rfl, by cases h; rfl⟩
 ·refine W_seq ?_
  refine Vr hT [0, 1, 2, 3, 4, 5, 6] ⟨[(1, kP 0 0), (6, kH 6), (37, kB l0_4)], [], [⟨.blk, 29, 1, 7, .c [.s (.k .i64 l0_0), .wh 1, .wh 2, .wh 3, .s (.b l0_4), .wh 4, .wh 5]⟩, ⟨(.dp false), 78, 1, l0_1.length, .d (.sl 80 (.pr (.wo 63) (.pr .u8 (.by 5)))) l0_1⟩, ow 63 l0_2, ow 63 l0_3, ⟨(.dp false), 78, 1, l0_5.length, .d (.sl 80 (.pr (.wo 63) (.pr .u8 (.by 5)))) l0_5⟩, ow 63 l0_6, nb 5 (r28 ++ r34)]⟩ ?_
  refine Vi (l0_4) (fun g22 => ?_) (fun g22 => ?_)
  ·replace h := bif_t h g22
   obtain ⟨r41, g12, h⟩ := bind_some' h
   refine Vgs hT (fT 2 (r9Write_ok n r41) fN) [] [] [0, 1, 2, 3, 4, 5, 6, 7] ⟨[(1, kP 0 0), (6, kH 6), (7, kH 7)], [], [⟨.blk, 29, 1, 7, .c [.s (.k .i64 l0_0), .wh 1, .wh 2, .wh 3, .s (.b l0_4), .wh 4, .wh 5]⟩, ⟨(.dp false), 78, 1, l0_1.length, .d (.sl 80 (.pr (.wo 63) (.pr .u8 (.by 5)))) l0_1⟩, ow 63 l0_2, ow 63 l0_3, ⟨(.dp false), 78, 1, l0_5.length, .d (.sl 80 (.pr (.wo 63) (.pr .u8 (.by 5)))) l0_5⟩, ow 63 l0_6, nb 5 (r28 ++ r34), nb 5 r41.1]⟩ (aP g12 aN) ?_
   obtain ⟨r47, g13, h⟩ := bind_some' h
   obtain ⟨g14, h⟩ := gd_some h
   obtain ⟨r49, g15, h⟩ := bind_some' h
   refine Vgs hT (fT 3 (qBig10_ok n r47) (fT 5 (qel13_ok n r49) fN)) [] [] [6, 10] ⟨[(6, kH 0), (9, kH 1)], [], [nb 5 (r28 ++ r34), nb 5 r49]⟩ (aP g13 (aP g14 (aP g15 aN))) ?_
   obtain ⟨r51, g16, h⟩ := bind_some' h
   obtain ⟨r52, g17, h⟩ := bind_some' h
   obtain ⟨g18, h⟩ := gd_some h
   refine Vgs hT (fT 1 (rOidBody_ok n r51) (fT 2 (qel13_ok n r52) fN)) [] [] [0, 5] ⟨[(6, kH 0), (10, kH 1)], [], [nb 5 (r28 ++ r34), nb 5 (r52 ++ r49)]⟩ (aP g16 (aP g17 (aP g18 aN))) ?_
   obtain ⟨r57, g19, h⟩ := bind_some' h
   obtain ⟨r58, g20, h⟩ := bind_some' h
   obtain ⟨g21, h⟩ := gd_some h
   refine Vg hT (fT 2 (qel13_ok n r57) (fT 3 (qel13_ok n r58) fN)) [] [] [4] (qAsk13_j1_E ((r28 ++ r34) ++ r58)) (aP g19 (aP g20 (aP g21 aN))) ?_
   exact ⟨_, rfl, h⟩
  ·replace h := bif_f h g22
   refine Vc [] [6] (qAsk13_j1_E (r28 ++ r34)) (W_skip ?_)
   exact ⟨_, rfl, h⟩
def qWrite0_R (r : Unit) : S := ⟨[(2, .c (.nils)), (3, kE 37 (some 1))], [], []⟩
def qWrite0_ct (n : Nat) (r : Unit) : Ct := ctc rNil.rd fun _ l0 => ct0 fun H => ([qWrite0 n = some r], shA H.length (.t [.c (.nils), .c (.s (.er 37 .i64 (some 1)))]), shH H.length [])
theorem qWrite0_ok (n : Nat) (r : Unit) : FnOk Tryz.prog Tr 9 (qWrite0_ct n r) := by
 refine fnok Tryz.func9 ?_
 refine HO_c rNil fun l0 _ => HO_0 tabO_qs (qWrite0_R r) [.tmp 2, .tmp 3] [] 47 Tryz.func9 fun w hG h => ?_
 unfold qWrite0 at h
 have hT := tabO_qs
 refine Vrs hT [] ⟨[(0, .c (.nils))], [], []⟩ ?_
 refine W_seq ?_
 refine Vrs hT [] ⟨[(0, .c (.nils)), (16, kB true)], [], []⟩ ?_
 refine Vi (true) (fun _ => ?_) (fun hb => by cases hb)
 refine Vrs hT [] ⟨[(2, .c (.nils)), (3, kE 37 (some 1))], [], []⟩ ?_
 refine Vc [] [] (qWrite0_R ()) (W_ret ?_)
 exact ⟨.inl rfl, by cases h; rfl⟩
def qin_R (a0_0 : List UInt8) (r : Int × List Int × Bool) : S := ⟨[], [(1000000, kP 0 0)], [⟨.blk, 73, 1, 2, .c [.pt 1 0, .s (.b r.2.2)]⟩, ⟨.blk, 102, 1, 3, .c [.wh 2, .s (.k .i64 r.1), .wh 3]⟩, nb 5 a0_0, nz 3 r.2.1]⟩
def qin_ct (n : Nat) (r : Int × List Int × Bool) : CtM := ctM (cmm (mP 73 (mC (mQ 102 (mC (mB 5) (mC mI (mC (mZ 3) mN)))) (mC mBo mN))) fun y0 => cmc rU8.rd fun l1 => cmR (qin n y0.1.1 y0.1.2.1 y0.1.2.2.1 y0.2.1 l1 = some r) (.t []) [⟨.blk, 73, 1, 2, .c [.pt 0 0, .s (.b r.2.2)]⟩] [⟨.blk, 102, 1, 3, .c [.wh 1, .s (.k .i64 r.1), .wh 2]⟩, nb 5 y0.1.1, nz 3 r.2.1])
theorem qin_ok (n : Nat) (r : Int × List Int × Bool) : FnMOk Tryz.prog 31 (qin_ct n r) := by
 refine fnokM Tryz.func31 ?_
 refine HM_m (mP 73 (mC (mQ 102 (mC (mB 5) (mC mI (mC (mZ 3) mN)))) (mC mBo mN))) (fun (p0 : ((((List UInt8) × (Int) × (List Int) × Unit)) × (Bool) × Unit)) => ?_) (allOwn_ok rfl)
 obtain ⟨⟨l0_0, l0_1, l0_2, _⟩, l0_3, _⟩ := p0
 refine HM_c rU8 fun l1 _ => HM_0 tabO_qs (qin_R l0_0 r) [] [0, 1, 2, 3] 20 1 Tryz.func31 fun w bs h => ?_
 have h : qin n l0_0 l0_1 l0_2 l0_3 l1 = some r := h
 unfold qin at h
 have hT := tabO_qs
 rcases Bool.eq_false_or_eq_true l0_3 with g1 | g1
 ·replace h := bif_t h g1
  refine Vg hT fN [(5, true)] [] [0, 1, 2, 3] (qin_R l0_0 (l0_1, l0_2, true)) (aP g1 aN) ?_
  exact ⟨.inr rfl, by cases h; rfl⟩
 ·replace h := bif_f h g1
  obtain ⟨r15, g2, h⟩ := bind_some' h
  refine Vg hT (fM 11 (tEnter_ok n r15) fN) [(5, false)] [] [0, 1, 4, 5] (qin_R l0_0 (r15.1, r15.2.1, (!((r15.2.2).isNone)))) (aP g1 (aP g2 aN)) ?_
  exact ⟨.inr rfl, by cases h; rfl⟩
def qat_R (a0_0 : List UInt8) (a0_1 : Int) (a0_2 : List Int) (a0_3 : Bool) (r : Bool) : S := ⟨[(4, kB r)], [(1000000, kP 0 0)], [⟨.blk, 73, 1, 2, .c [.pt 1 0, .s (.b a0_3)]⟩, ⟨.blk, 102, 1, 3, .c [.wh 2, .s (.k .i64 a0_1), .wh 3]⟩, nb 5 a0_0, nz 3 a0_2]⟩
def qat_ct (n : Nat) (r : Bool) : CtM := ctM (cmm (mP 73 (mC (mQ 102 (mC (mB 5) (mC mI (mC (mZ 3) mN)))) (mC mBo mN))) fun y0 => cmc rU8.rd fun l1 => cmR (qat n y0.1.1 y0.1.2.1 y0.1.2.2.1 y0.2.1 l1 = some r) (kB r) [⟨.blk, 73, 1, 2, .c [.pt 0 0, .s (.b y0.2.1)]⟩] [⟨.blk, 102, 1, 3, .c [.wh 1, .s (.k .i64 y0.1.2.1), .wh 2]⟩, nb 5 y0.1.1, nz 3 y0.1.2.2.1])
theorem qat_ok (n : Nat) (r : Bool) : FnMOk Tryz.prog 32 (qat_ct n r) := by
 refine fnokM Tryz.func32 ?_
 refine HM_m (mP 73 (mC (mQ 102 (mC (mB 5) (mC mI (mC (mZ 3) mN)))) (mC mBo mN))) (fun (p0 : ((((List UInt8) × (Int) × (List Int) × Unit)) × (Bool) × Unit)) => ?_) (allOwn_ok rfl)
 obtain ⟨⟨l0_0, l0_1, l0_2, _⟩, l0_3, _⟩ := p0
 refine HM_c rU8 fun l1 _ => HM_0 tabO_qs (qat_R l0_0 l0_1 l0_2 l0_3 r) [.tmp 4] [0, 1, 2, 3] 28 1 Tryz.func32 fun w bs h => ?_
 have h : qat n l0_0 l0_1 l0_2 l0_3 l1 = some r := h
 unfold qat at h
 have hT := tabO_qs
 refine Vrs hT [0, 1, 2, 3] ⟨[(0, kP 0 0), (1, kU l1)], [(1000000, kP 0 0)], [⟨.blk, 73, 1, 2, .c [.pt 1 0, .s (.b l0_3)]⟩, ⟨.blk, 102, 1, 3, .c [.wh 2, .s (.k .i64 l0_1), .wh 3]⟩, nb 5 l0_0, nz 3 l0_2]⟩ ?_
 obtain ⟨r12, g1, h⟩ := bind_some' h
 refine Vgs hT (fM 4 (tNext_ok n r12) fN) [] [] [0, 1, 4, 5] ⟨[(0, kP 0 0), (1, kU l1), (5, kU r12.1), (6, kB r12.2)], [(1000000, kP 0 0)], [⟨.blk, 73, 1, 2, .c [.pt 1 0, .s (.b l0_3)]⟩, ⟨.blk, 102, 1, 3, .c [.wh 2, .s (.k .i64 l0_1), .wh 3]⟩, nb 5 l0_0, nz 3 l0_2]⟩ (aP g1 aN) ?_
 refine W_seq ?_
 rcases Bool.eq_false_or_eq_true (!l0_3) with g2 | g2
 ·replace h := bif_t h g2
  rcases Bool.eq_false_or_eq_true r12.2 with g3 | g3
  ·replace h := bif_t h g3
   refine Vg hT fN [(5, true), (8, true)] [] [0, 1, 2, 3] ⟨[(4, kB (r12.1 == l1))], [(1000000, kP 0 0)], [⟨.blk, 73, 1, 2, .c [.pt 1 0, .s (.b l0_3)]⟩, ⟨.blk, 102, 1, 3, .c [.wh 2, .s (.k .i64 l0_1), .wh 3]⟩, nb 5 l0_0, nz 3 l0_2]⟩ (aP g2 (aP g3 aN)) ?_
   refine Vc [] [0, 1, 2, 3] (qat_R l0_0 l0_1 l0_2 l0_3 (r12.1 == l1)) (W_ret ?_)
   exact ⟨.inl rfl, by cases h; rfl⟩
  ·replace h := bif_f h g3
   refine Vg hT fN [(5, true), (8, false)] [] [0, 1, 2, 3] ⟨[(4, kB false)], [(1000000, kP 0 0)], [⟨.blk, 73, 1, 2, .c [.pt 1 0, .s (.b l0_3)]⟩, ⟨.blk, 102, 1, 3, .c [.wh 2, .s (.k .i64 l0_1), .wh 3]⟩, nb 5 l0_0, nz 3 l0_2]⟩ (aP g2 (aP g3 aN)) ?_
   refine Vc [] [0, 1, 2, 3] (qat_R l0_0 l0_1 l0_2 l0_3 false) (W_ret ?_)
   exact ⟨.inl rfl, by cases h; rfl⟩
 ·replace h := bif_f h g2
  refine Vg hT fN [(5, false)] [] [0, 1, 2, 3] ⟨[(4, kB false)], [(1000000, kP 0 0)], [⟨.blk, 73, 1, 2, .c [.pt 1 0, .s (.b l0_3)]⟩, ⟨.blk, 102, 1, 3, .c [.wh 2, .s (.k .i64 l0_1), .wh 3]⟩, nb 5 l0_0, nz 3 l0_2]⟩ (aP g2 aN) ?_
  refine Vc [] [0, 1, 2, 3] (qat_R l0_0 l0_1 l0_2 l0_3 false) (W_ret ?_)
  exact ⟨.inl rfl, by cases h; rfl⟩
def qRead_j1_E (a0 : List UInt8) (r9 : List UInt8 × List Int) (r13 : Int × List Int × Bool) : S := ⟨[(0, kH 0), (4, kP 1 0), (5, .c (.nils))], [], [ob 5 a0, ⟨.blk, 73, 1, 2, .c [.pt 2 0, .s (.b r13.2.2)]⟩, ⟨.blk, 102, 1, 3, .c [.wh 3, .s (.k .i64 r13.1), .wh 4]⟩, nb 5 r9.1, nz 3 r13.2.1]⟩
abbrev qRead_j1_P (n : Nat) (a0 : List UInt8) (r9 : List UInt8 × List Int) (r13 : Int × List Int × Bool) (r : Unit) : S → Prop := fun s => s = qRead_j1_E a0 r9 r13 ∧ qRead_j1 n a0 r9 r13 = some r
def qRead_l1_E (a0 : List UInt8) (r9 : List UInt8 × List Int) (r13 : Int × List Int × Bool) : S := ⟨[(0, kH 0), (4, kP 1 0), (5, .c (.nils))], [], [ob 5 a0, ⟨.blk, 73, 1, 2, .c [.pt 2 0, .s (.b r13.2.2)]⟩, ⟨.blk, 102, 1, 3, .c [.wh 3, .s (.k .i64 r13.1), .wh 4]⟩, nb 5 r9.1, nz 3 r13.2.1]⟩
abbrev qRead_l1_P (n : Nat) (a0 : List UInt8) (r9 : List UInt8 × List Int) (r13 : Int × List Int × Bool) (r : Unit) (fu : Nat) : S → Prop := fun s => s = qRead_l1_E a0 r9 r13 ∧ qRead_l1 n a0 r9 r13 fu = some r
def qRead_R (r : Unit) : S := ⟨[(2, .c (.nils)), (3, kE 37 (some 2))], [], []⟩
def qRead_ct (n : Nat) (r : Unit) : Ct := ctc (rB 5).rd fun _ l0 => ct0 fun H => ([qRead n l0 = some r], shA H.length (.t [.c (.nils), .c (.s (.er 37 .i64 (some 2)))]), shH H.length [])
theorem qRead_ok (n : Nat) (r : Unit) : FnOk Tryz.prog Tr 10 (qRead_ct n r) := by
 refine fnok Tryz.func10 ?_
 refine HO_c (rB 5) fun l0 _ => HO_0 tabO_qs (qRead_R r) [.tmp 2, .tmp 3] [] 47 Tryz.func10 fun w hG h => ?_
 unfold qRead at h
 have hT := tabO_qs
 refine Vrs hT [0] ⟨[(0, kH 0)], [], [ob 5 l0]⟩ ?_
 obtain ⟨r9, g1, h⟩ := bind_some' h
 refine Vgs hT (fT 1 (tNewR_ok n r9) fN) [] [] [0, 4, 1, 2, 3] ⟨[(0, kH 0), (4, kP 1 0)], [], [ob 5 l0, ⟨.blk, 73, 1, 2, .c [.pt 2 0, .s (.b false)]⟩, ⟨.blk, 102, 1, 3, .c [.wh 3, .s (.k .i64 0), .wh 4]⟩, nb 5 r9.1, nz 3 r9.2]⟩ (aP g1 aN) ?_
 obtain ⟨r13, g2, h⟩ := bind_some' h
 refine Vgs hT (fM 1 (qin_ok n r13) fN) [] [] [0, 1, 5, 6, 7] ⟨[(0, kH 0), (4, kP 1 0)], [], [ob 5 l0, ⟨.blk, 73, 1, 2, .c [.pt 2 0, .s (.b r13.2.2)]⟩, ⟨.blk, 102, 1, 3, .c [.wh 3, .s (.k .i64 r13.1), .wh 4]⟩, nb 5 r9.1, nz 3 r13.2.1]⟩ (aP g2 aN) ?_
 refine Vrs hT [0, 1, 2, 3, 4] ⟨[(0, kH 0), (4, kP 1 0), (5, .c (.nils))], [], [ob 5 l0, ⟨.blk, 73, 1, 2, .c [.pt 2 0, .s (.b r13.2.2)]⟩, ⟨.blk, 102, 1, 3, .c [.wh 3, .s (.k .i64 r13.1), .wh 4]⟩, nb 5 r9.1, nz 3 r13.2.1]⟩ ?_
 refine W_join (qRead_j1_P n l0 r9 r13 r) ?_ ?_
 ·rintro _ ⟨rfl, h⟩
  unfold qRead_j1 at h
  obtain ⟨r28, g3, h⟩ := bind_some' h
  refine Vgs hT (fT 1 (qWrite0_ok n r28) fN) [] [] [0, 1, 2, 3, 4] ⟨[(0, kH 0), (4, kP 1 0), (5, .c (.nils)), (6, .c (.nils)), (7, kE 37 (some 1))], [], [ob 5 l0, ⟨.blk, 73, 1, 2, .c [.pt 2 0, .s (.b r13.2.2)]⟩, ⟨.blk, 102, 1, 3, .c [.wh 3, .s (.k .i64 r13.1), .wh 4]⟩, nb 5 r9.1, nz 3 r13.2.1]⟩ (aP g3 aN) ?_
  refine W_seq ?_
  refine W_seq ?_
  rcases Bool.eq_false_or_eq_true r13.2.2 with g4 | g4
  ·replace h := bif_t h g4
   refine Vg hT fN [(4, true)] [] [] ⟨[(5, .c (.nils)), (44, kB true)], [], []⟩ (aP g4 aN) ?_
   refine Vi (true) (fun _ => ?_) (fun hb => by cases hb)
   refine Vrs hT [] ⟨[(2, .c (.nils)), (3, kE 37 (some 2))], [], []⟩ ?_
   refine Vc [] [] (qRead_R ()) (W_ret ?_)
   exact ⟨.inl rfl, by cases h; rfl⟩
  ·replace h := bif_f h g4
   refine Vg hT fN [(4, false)] [] [] ⟨[(5, .c (.nils)), (44, kB true)], [], []⟩ (aP g4 aN) ?_
   refine Vi (true) (fun _ => ?_) (fun hb => by cases hb)
   refine Vrs hT [] ⟨[(2, .c (.nils)), (3, kE 37 (some 2))], [], []⟩ ?_
   refine Vc [] [] (qRead_R ()) (W_ret ?_)
   exact ⟨.inl rfl, by cases h; rfl⟩
 ·refine W_block ?_
  refine Vc [] [0, 1, 2, 3, 4] (qRead_l1_E l0 r9 r13) (W_lp ((qRead_l1_P n l0 r9 r13 r)) n ⟨rfl, h⟩ ?_)
  rintro fu_l1 _ ⟨rfl, h⟩
  cases fu_l1 with
  | zero => cases h
  | succ fu_l1 =>
   refine ⟨fu_l1, rfl, ?_⟩
   rw [qRead_l1] at h
   refine W_seq ?_
   refine W_seq ?_
   obtain ⟨r15, g5, h⟩ := bind_some' h
   rcases Bool.eq_false_or_eq_true r15 with g6 | g6
   ·replace h := bif_t h g6
    refine Vg hT (fM 1 (qat_ok n r15) fN) [(2, true)] [] [0, 1, 5, 6, 7] ⟨[(0, kH 0), (4, kP 1 0), (5, .c (.nils)), (20, kB true)], [], [ob 5 l0, ⟨.blk, 73, 1, 2, .c [.pt 2 0, .s (.b r13.2.2)]⟩, ⟨.blk, 102, 1, 3, .c [.wh 3, .s (.k .i64 r13.1), .wh 4]⟩, nb 5 r9.1, nz 3 r13.2.1]⟩ (aP g5 (aP g6 aN)) ?_
    refine Vi (true) (fun _ => ?_) (fun hb => by cases hb)
    refine Vc [] [0, 1, 2, 3, 4] ⟨[(0, kH 0), (4, kP 1 0), (5, .c (.nils))], [], [ob 5 l0, ⟨.blk, 73, 1, 2, .c [.pt 2 0, .s (.b r13.2.2)]⟩, ⟨.blk, 102, 1, 3, .c [.wh 3, .s (.k .i64 r13.1), .wh 4]⟩, nb 5 r9.1, nz 3 r13.2.1]⟩ (W_skip ?_)
    refine W_block ?_
    cases h
   ·replace h := bif_f h g6
    refine Vg hT (fM 1 (qat_ok n r15) fN) [(2, false)] [] [0, 1, 5, 6, 7] ⟨[(0, kH 0), (4, kP 1 0), (5, .c (.nils)), (20, kB false)], [], [ob 5 l0, ⟨.blk, 73, 1, 2, .c [.pt 2 0, .s (.b r13.2.2)]⟩, ⟨.blk, 102, 1, 3, .c [.wh 3, .s (.k .i64 r13.1), .wh 4]⟩, nb 5 r9.1, nz 3 r13.2.1]⟩ (aP g5 (aP g6 aN)) ?_
    refine Vi (false) (fun hb => by cases hb) (fun _ => ?_)
    refine Vc [] [0, 1, 2, 3, 4] (qRead_j1_E l0 r9 r13) (W_exit ?_)
    exact ⟨rfl, h⟩
def qup_R (r : Bool) : S := ⟨[(0, kB r)], [], []⟩
def qup_ct (n : Nat) (r : Bool) : Ct := ct0 fun H => ([qup n = some r], shA H.length (kB r), shH H.length [])
theorem qup_ok (n : Nat) (r : Bool) : FnOk Tryz.prog Tr 4 (qup_ct n r) := by
 refine fnok Tryz.func4 ?_
 refine HO_0 tabO_qs (qup_R r) [.tmp 0] [] 21 Tryz.func4 fun w hG h => ?_
 unfold qup at h
 have hT := tabO_qs
 refine Vrs hT [] ⟨[], [], []⟩ ?_
 obtain ⟨r6, g1, h⟩ := bind_some' h
 refine Vgs hT (fT 0 (qWrite0_ok n r6) fN) [] [] [] ⟨[(2, kE 37 (some 1))], [], []⟩ (aP g1 aN) ?_
 obtain ⟨r10, g2, h⟩ := bind_some' h
 refine Vgs hT (fT 0 (qRead_ok n r10) fN) [] [] [] ⟨[(2, kE 37 (some 1)), (4, kE 37 (some 2))], [], []⟩ (aP g2 aN) ?_
 refine W_seq ?_
 obtain ⟨g3, h⟩ := gd_some h
 rcases Bool.eq_false_or_eq_true ((some 1) == (some 1)) with g4 | g4
 ·replace h := bif_t h g4
  obtain ⟨g5, h⟩ := gd_some h
  refine Vg hT fN [(3, true)] [] [] ⟨[(0, kB ((some 2) == (some 2)))], [], []⟩ (aP g3 (aP g4 (aP g5 aN))) ?_
  refine Vc [] [] (qup_R ((some 2) == (some 2))) (W_ret ?_)
  exact ⟨.inl rfl, by cases h; rfl⟩
 ·replace h := bif_f h g4
  refine Vg hT fN [(3, false)] [] [] ⟨[(0, kB false)], [], []⟩ (aP g3 (aP g4 aN)) ?_
  refine Vc [] [] (qup_R false) (W_ret ?_)
  exact ⟨.inl rfl, by cases h; rfl⟩
def qfew_l2_E (a0 : List (List (List UInt32 × (UInt8 × List UInt8)))) (i3_2 : Int) (i4_8 : Int) : S := ⟨[(0, kH 0), (3, kI i3_2), (4, kI i4_8)], [], [⟨(.dp false), 78, 1, a0.length, .d (.sl 80 (.pr (.wo 63) (.pr .u8 (.by 5)))) a0⟩]⟩
abbrev qfew_l2_P (n : Nat) (a0 : List (List (List UInt32 × (UInt8 × List UInt8)))) (i3_2 : Int) (k_l1 : Int → Option (Bool)) (r : Bool) (fu : Nat) : S → Prop := fun s => ∃ (i4_8 : Int), s = qfew_l2_E a0 i3_2 i4_8 ∧ qfew_l2 n a0 i3_2 k_l1 fu i4_8 = some r
def qfew_l1_E (a0 : List (List (List UInt32 × (UInt8 × List UInt8)))) (i3_2 : Int) : S := ⟨[(0, kH 0), (3, kI i3_2)], [], [⟨(.dp false), 78, 1, a0.length, .d (.sl 80 (.pr (.wo 63) (.pr .u8 (.by 5)))) a0⟩]⟩
abbrev qfew_l1_P (n : Nat) (a0 : List (List (List UInt32 × (UInt8 × List UInt8)))) (r : Bool) (fu : Nat) : S → Prop := fun s => ∃ (i3_2 : Int), s = qfew_l1_E a0 i3_2 ∧ qfew_l1 n a0 fu i3_2 = some r
def qfew_R (r : Bool) : S := ⟨[(2, kB r)], [], []⟩
def qfew_ct (n : Nat) (r : Bool) : Ct := ctc (rD 78 (.sl 80 (.pr (.wo 63) (.pr .u8 (.by 5))))).rd fun _ l0 => ct0 fun H => ([qfew n l0 = some r], shA H.length (kB r), shH H.length [])
theorem qfew_ok (n : Nat) (r : Bool) : FnOk Tryz.prog Tr 11 (qfew_ct n r) := by
 refine fnok Tryz.func11 ?_
 refine HO_c (rD 78 (.sl 80 (.pr (.wo 63) (.pr .u8 (.by 5))))) fun (l0 : List (List (List UInt32 × (UInt8 × List UInt8)))) _ => HO_0 tabO_qs (qfew_R r) [.tmp 2] [] 51 Tryz.func11 fun w hG h => ?_
 unfold qfew at h
 have hT := tabO_qs
 refine Vrs hT [0] ⟨[(0, kH 0)], [], [⟨(.dp false), 78, 1, l0.length, .d (.sl 80 (.pr (.wo 63) (.pr .u8 (.by 5)))) l0⟩]⟩ ?_
 refine W_seq ?_
 refine Vrs hT [0] ⟨[(0, kH 0), (7, kB (decide ((20 : Int) < ((l0.length : Nat) : Int))))], [], [⟨(.dp false), 78, 1, l0.length, .d (.sl 80 (.pr (.wo 63) (.pr .u8 (.by 5)))) l0⟩]⟩ ?_
 refine Vi ((decide ((20 : Int) < ((l0.length : Nat) : Int)))) (fun g20 => ?_) (fun g20 => ?_)
 ·replace h := bif_t h g20
  refine Vrs hT [] ⟨[(2, kB false)], [], []⟩ ?_
  refine Vc [] [] (qfew_R false) (W_ret ?_)
  exact ⟨.inl rfl, by cases h; rfl⟩
 ·replace h := bif_f h g20
  refine W_skip ?_
  refine W_seq ?_
  refine Vrs hT [0] ⟨[(0, kH 0), (3, kI 0)], [], [⟨(.dp false), 78, 1, l0.length, .d (.sl 80 (.pr (.wo 63) (.pr .u8 (.by 5)))) l0⟩]⟩ ?_
  refine W_block ?_
  refine Vc [] [0] (qfew_l1_E l0 0) (W_lp ((qfew_l1_P n l0 r)) n ⟨_, rfl, h⟩ ?_)
  rintro fu_l1 _ ⟨i3_2, rfl, h⟩
  cases fu_l1 with
  | zero => cases h
  | succ fu_l1 =>
   refine ⟨fu_l1, rfl, ?_⟩
   rw [qfew_l1] at h
   refine W_seq ?_
   refine Vrs hT [0] ⟨[(0, kH 0), (3, kI i3_2), (11, kB (decide (i3_2 < ((l0.length : Nat) : Int))))], [], [⟨(.dp false), 78, 1, l0.length, .d (.sl 80 (.pr (.wo 63) (.pr .u8 (.by 5)))) l0⟩]⟩ ?_
   refine Vi ((decide (i3_2 < ((l0.length : Nat) : Int)))) (fun g19 => ?_) (fun g19 => ?_)
   ·replace h := bif_t h g19
    refine W_skip ?_
    refine W_seq ?_
    refine W_block ?_
    refine W_seq ?_
    obtain ⟨g1, g2, h⟩ := gd2 h
    refine Vgs hT fN [] [] [0] ⟨[(0, kH 0), (3, kI i3_2), (19, kB (decide ((10 : Int) < (((l0.getD i3_2.toNat []).length : Nat) : Int))))], [], [⟨(.dp false), 78, 1, l0.length, .d (.sl 80 (.pr (.wo 63) (.pr .u8 (.by 5)))) l0⟩]⟩ (aP g1 (aP g2 aN)) ?_
    refine Vi ((decide ((10 : Int) < (((l0.getD i3_2.toNat []).length : Nat) : Int)))) (fun g18 => ?_) (fun g18 => ?_)
    ·replace h := bif_t h g18
     refine Vrs hT [] ⟨[(2, kB false)], [], []⟩ ?_
     refine Vc [] [] (qfew_R false) (W_ret ?_)
     exact ⟨.inl rfl, by cases h; rfl⟩
    ·replace h := bif_f h g18
     refine W_skip ?_
     refine Vrs hT [0] ⟨[(0, kH 0), (3, kI i3_2), (4, kI 0)], [], [⟨(.dp false), 78, 1, l0.length, .d (.sl 80 (.pr (.wo 63) (.pr .u8 (.by 5)))) l0⟩]⟩ ?_
     refine W_block ?_
     refine Vc [] [0] (qfew_l2_E l0 i3_2 0) (W_lp ((qfew_l2_P n l0 i3_2 (qfew_l1 n l0 fu_l1) r)) n ⟨_, rfl, h⟩ ?_)
     rintro fu_l2 _ ⟨i4_8, rfl, h⟩
     cases fu_l2 with
     | zero => cases h
     | succ fu_l2 =>
      refine ⟨fu_l2, rfl, ?_⟩
      rw [qfew_l2] at h
      refine W_seq ?_
      obtain ⟨g3, g4, h⟩ := gd2 h
      refine Vgs hT fN [] [] [0] ⟨[(0, kH 0), (3, kI i3_2), (4, kI i4_8), (26, kB (decide (i4_8 < (((l0.getD i3_2.toNat []).length : Nat) : Int))))], [], [⟨(.dp false), 78, 1, l0.length, .d (.sl 80 (.pr (.wo 63) (.pr .u8 (.by 5)))) l0⟩]⟩ (aP g3 (aP g4 aN)) ?_
      refine Vi ((decide (i4_8 < (((l0.getD i3_2.toNat []).length : Nat) : Int)))) (fun g17 => ?_) (fun g17 => ?_)
      ·replace h := bif_t h g17
       refine Vc [] [0] ⟨[(0, kH 0), (3, kI i3_2), (4, kI i4_8)], [], [⟨(.dp false), 78, 1, l0.length, .d (.sl 80 (.pr (.wo 63) (.pr .u8 (.by 5)))) l0⟩]⟩ (W_skip ?_)
       refine W_seq ?_
       refine W_block ?_
       refine W_seq ?_
       obtain ⟨g5, g6, g7, g8, h⟩ := gd4 h
       rcases Bool.eq_false_or_eq_true (decide ((200 : Int) < (((((l0.getD i3_2.toNat []).getD i4_8.toNat ([], (0, []))).2.2).length : Nat) : Int))) with g9 | g9
       ·replace h := bif_t h g9
        refine Vg hT fN [(10, true)] [] [0] ⟨[(0, kH 0), (3, kI i3_2), (4, kI i4_8), (50, kB true)], [], [⟨(.dp false), 78, 1, l0.length, .d (.sl 80 (.pr (.wo 63) (.pr .u8 (.by 5)))) l0⟩]⟩ (aP g5 (aP g6 (aP g7 (aP g8 (aP g9 aN))))) ?_
        refine Vi (true) (fun _ => ?_) (fun hb => by cases hb)
        refine Vrs hT [] ⟨[(2, kB false)], [], []⟩ ?_
        refine Vc [] [] (qfew_R false) (W_ret ?_)
        exact ⟨.inl rfl, by cases h; rfl⟩
       ·replace h := bif_f h g9
        obtain ⟨g10, g11, g12, g13, h⟩ := gd4 h
        refine Vg hT fN [(10, false)] [] [0] ⟨[(0, kH 0), (3, kI i3_2), (4, kI i4_8), (50, kB (decide ((30 : Int) < (((((l0.getD i3_2.toNat []).getD i4_8.toNat ([], (0, []))).1).length : Nat) : Int))))], [], [⟨(.dp false), 78, 1, l0.length, .d (.sl 80 (.pr (.wo 63) (.pr .u8 (.by 5)))) l0⟩]⟩ (aP g5 (aP g6 (aP g7 (aP g8 (aP g9 (aP g10 (aP g11 (aP g12 (aP g13 aN))))))))) ?_
        refine Vi ((decide ((30 : Int) < (((((l0.getD i3_2.toNat []).getD i4_8.toNat ([], (0, []))).1).length : Nat) : Int)))) (fun g15 => ?_) (fun g15 => ?_)
        ·replace h := bif_t h g15
         refine Vrs hT [] ⟨[(2, kB false)], [], []⟩ ?_
         refine Vc [] [] (qfew_R false) (W_ret ?_)
         exact ⟨.inl rfl, by cases h; rfl⟩
        ·replace h := bif_f h g15
         refine W_skip ?_
         obtain ⟨g14, h⟩ := gd_some h
         refine Vg hT fN [] [] [0] (qfew_l2_E l0 i3_2 (i4_8 + 1)) (aP g14 aN) ?_
         exact ⟨_, rfl, h⟩
      ·replace h := bif_f h g17
       refine Vc [] [0] ⟨[(0, kH 0), (3, kI i3_2)], [], [⟨(.dp false), 78, 1, l0.length, .d (.sl 80 (.pr (.wo 63) (.pr .u8 (.by 5)))) l0⟩]⟩ (W_exit ?_)
       obtain ⟨g16, h⟩ := gd_some h
       refine Vg hT fN [] [] [0] (qfew_l1_E l0 (i3_2 + 1)) (aP g16 aN) ?_
       exact ⟨_, rfl, h⟩
   ·replace h := bif_f h g19
    refine Vc [] [] ⟨[], [], []⟩ (W_exit ?_)
    refine Vrs hT [] ⟨[(2, kB true)], [], []⟩ ?_
    refine Vc [] [] (qfew_R true) (W_ret ?_)
    exact ⟨.inl rfl, by cases h; rfl⟩
def qLight_R (r : Bool) : S := ⟨[(2, kB r)], [], []⟩
def qLight_ct (n : Nat) (r : Bool) : Ct := ctc (rSt (lC cI (lC (cD 78 (.sl 80 (.pr (.wo 63) (.pr .u8 (.by 5))))) (lC (cW 63) (lC (cW 63) (lC cBo (lC (cD 78 (.sl 80 (.pr (.wo 63) (.pr .u8 (.by 5))))) (lC (cW 63) lN)))))))).rd fun _ y0 => ct0 fun H => ([qLight n y0.1 y0.2.1 y0.2.2.1 y0.2.2.2.1 y0.2.2.2.2.1 y0.2.2.2.2.2.1 y0.2.2.2.2.2.2.1 = some r], shA H.length (kB r), shH H.length [])
theorem qLight_ok (n : Nat) (r : Bool) : FnOk Tryz.prog Tr 5 (qLight_ct n r) := by
 refine fnok Tryz.func5 ?_
 refine HO_c (rSt (lC cI (lC (cD 78 (.sl 80 (.pr (.wo 63) (.pr .u8 (.by 5))))) (lC (cW 63) (lC (cW 63) (lC cBo (lC (cD 78 (.sl 80 (.pr (.wo 63) (.pr .u8 (.by 5))))) (lC (cW 63) lN)))))))) fun (p0 : (Int) × (List (List (List UInt32 × (UInt8 × List UInt8)))) × (List UInt32) × (List UInt32) × (Bool) × (List (List (List UInt32 × (UInt8 × List UInt8)))) × (List UInt32) × Unit) _ => ?_
 obtain ⟨l0_0, l0_1, l0_2, l0_3, l0_4, l0_5, l0_6, _⟩ := p0
 refine HO_0 tabO_qs (qLight_R r) [.tmp 2] [] 31 Tryz.func5 fun w hG h => ?_
 have h : qLight n l0_0 l0_1 l0_2 l0_3 l0_4 l0_5 l0_6 = some r := h
 unfold qLight at h
 have hT := tabO_qs
 refine Vrs hT [5, 0, 1, 2, 3, 4] ⟨[(1, kP 0 0)], [], [⟨.blk, 29, 1, 7, .c [.s (.k .i64 l0_0), .wh 1, .wh 2, .wh 3, .s (.b l0_4), .wh 4, .wh 5]⟩, ⟨(.dp false), 78, 1, l0_1.length, .d (.sl 80 (.pr (.wo 63) (.pr .u8 (.by 5)))) l0_1⟩, ow 63 l0_2, ow 63 l0_3, ⟨(.dp false), 78, 1, l0_5.length, .d (.sl 80 (.pr (.wo 63) (.pr .u8 (.by 5)))) l0_5⟩, ow 63 l0_6]⟩ ?_
 refine W_seq ?_
 obtain ⟨r5, g1, h⟩ := bind_some' h
 rcases Bool.eq_false_or_eq_true r5 with g2 | g2
 ·replace h := bif_t h g2
  obtain ⟨r9, g3, h⟩ := bind_some' h
  rcases Bool.eq_false_or_eq_true r9 with g4 | g4
  ·replace h := bif_t h g4
   rcases Bool.eq_false_or_eq_true (decide (((l0_2.length : Nat) : Int) ≤ (70 : Int))) with g5 | g5
   ·replace h := bif_t h g5
    rcases Bool.eq_false_or_eq_true (decide (((l0_3.length : Nat) : Int) ≤ (70 : Int))) with g6 | g6
    ·replace h := bif_t h g6
     refine Vg hT (fT 2 (qfew_ok n r5) (fT 6 (qfew_ok n r9) fN)) [(3, true), (8, true), (15, true), (22, true)] [] [] ⟨[(2, kB (decide (((l0_6.length : Nat) : Int) ≤ (70 : Int))))], [], []⟩ (aP g1 (aP g2 (aP g3 (aP g4 (aP g5 (aP g6 aN)))))) ?_
     refine Vc [] [] (qLight_R (decide (((l0_6.length : Nat) : Int) ≤ (70 : Int)))) (W_ret ?_)
     exact ⟨.inl rfl, by cases h; rfl⟩
    ·replace h := bif_f h g6
     refine Vg hT (fT 2 (qfew_ok n r5) (fT 6 (qfew_ok n r9) fN)) [(3, true), (8, true), (15, true), (22, false)] [] [] ⟨[(2, kB false)], [], []⟩ (aP g1 (aP g2 (aP g3 (aP g4 (aP g5 (aP g6 aN)))))) ?_
     refine Vc [] [] (qLight_R false) (W_ret ?_)
     exact ⟨.inl rfl, by cases h; rfl⟩
   ·replace h := bif_f h g5
    refine Vg hT (fT 2 (qfew_ok n r5) (fT 6 (qfew_ok n r9) fN)) [(3, true), (8, true), (15, false)] [] [] ⟨[(2, kB false)], [], []⟩ (aP g1 (aP g2 (aP g3 (aP g4 (aP g5 aN))))) ?_
    refine Vc [] [] (qLight_R false) (W_ret ?_)
    exact ⟨.inl rfl, by cases h; rfl⟩
  ·replace h := bif_f h g4
   refine Vg hT (fT 2 (qfew_ok n r5) (fT 6 (qfew_ok n r9) fN)) [(3, true), (8, false)] [] [] ⟨[(2, kB false)], [], []⟩ (aP g1 (aP g2 (aP g3 (aP g4 aN)))) ?_
   refine Vc [] [] (qLight_R false) (W_ret ?_)
   exact ⟨.inl rfl, by cases h; rfl⟩
 ·replace h := bif_f h g2
  refine Vg hT (fT 2 (qfew_ok n r5) fN) [(3, false)] [] [] ⟨[(2, kB false)], [], []⟩ (aP g1 (aP g2 aN)) ?_
  refine Vc [] [] (qLight_R false) (W_ret ?_)
  exact ⟨.inl rfl, by cases h; rfl⟩
def lAsks_R (r : Bool) : S := ⟨[(2, kB r)], [], []⟩
def lAsks_ct (n : Nat) (r : Bool) : Ct := ctc (rSt (lC cI (lC (cD 78 (.sl 80 (.pr (.wo 63) (.pr .u8 (.by 5))))) (lC (cW 63) (lC (cW 63) (lC cBo (lC (cD 78 (.sl 80 (.pr (.wo 63) (.pr .u8 (.by 5))))) (lC (cW 63) lN)))))))).rd fun _ y0 => ct0 fun H => ([lAsks n y0.1 y0.2.1 y0.2.2.1 y0.2.2.2.1 y0.2.2.2.2.1 y0.2.2.2.2.2.1 y0.2.2.2.2.2.2.1 = some r], shA H.length (kB r), shH H.length [])
theorem lAsks_ok (n : Nat) (r : Bool) : FnOk Tryz.prog Tr 3 (lAsks_ct n r) := by
 refine fnok Tryz.func3 ?_
 refine HO_c (rSt (lC cI (lC (cD 78 (.sl 80 (.pr (.wo 63) (.pr .u8 (.by 5))))) (lC (cW 63) (lC (cW 63) (lC cBo (lC (cD 78 (.sl 80 (.pr (.wo 63) (.pr .u8 (.by 5))))) (lC (cW 63) lN)))))))) fun (p0 : (Int) × (List (List (List UInt32 × (UInt8 × List UInt8)))) × (List UInt32) × (List UInt32) × (Bool) × (List (List (List UInt32 × (UInt8 × List UInt8)))) × (List UInt32) × Unit) _ => ?_
 obtain ⟨l0_0, l0_1, l0_2, l0_3, l0_4, l0_5, l0_6, _⟩ := p0
 refine HO_0 tabO_qs (lAsks_R r) [.tmp 2] [] 47 Tryz.func3 fun w hG h => ?_
 have h : lAsks n l0_0 l0_1 l0_2 l0_3 l0_4 l0_5 l0_6 = some r := h
 unfold lAsks at h
 have hT := tabO_qs
 refine Vrs hT [5, 0, 1, 2, 3, 4] ⟨[(1, kP 0 0)], [], [⟨.blk, 29, 1, 7, .c [.s (.k .i64 l0_0), .wh 1, .wh 2, .wh 3, .s (.b l0_4), .wh 4, .wh 5]⟩, ⟨(.dp false), 78, 1, l0_1.length, .d (.sl 80 (.pr (.wo 63) (.pr .u8 (.by 5)))) l0_1⟩, ow 63 l0_2, ow 63 l0_3, ⟨(.dp false), 78, 1, l0_5.length, .d (.sl 80 (.pr (.wo 63) (.pr .u8 (.by 5)))) l0_5⟩, ow 63 l0_6]⟩ ?_
 obtain ⟨r8, g1, h⟩ := bind_some' h
 refine Vgs hT (fT 0 (qup_ok n r8) fN) [] [] [0, 1, 2, 3, 4, 5] ⟨[(1, kP 0 0), (3, kB r8)], [], [⟨.blk, 29, 1, 7, .c [.s (.k .i64 l0_0), .wh 1, .wh 2, .wh 3, .s (.b l0_4), .wh 4, .wh 5]⟩, ⟨(.dp false), 78, 1, l0_1.length, .d (.sl 80 (.pr (.wo 63) (.pr .u8 (.by 5)))) l0_1⟩, ow 63 l0_2, ow 63 l0_3, ⟨(.dp false), 78, 1, l0_5.length, .d (.sl 80 (.pr (.wo 63) (.pr .u8 (.by 5)))) l0_5⟩, ow 63 l0_6]⟩ (aP g1 aN) ?_
 obtain ⟨r10, g2, h⟩ := bind_some' h
 refine Vgs hT (fT 1 (qLight_ok n r10) fN) [] [] [0, 1, 2, 3, 4, 5] ⟨[(1, kP 0 0), (3, kB r8), (4, kB r10)], [], [⟨.blk, 29, 1, 7, .c [.s (.k .i64 l0_0), .wh 1, .wh 2, .wh 3, .s (.b l0_4), .wh 4, .wh 5]⟩, ⟨(.dp false), 78, 1, l0_1.length, .d (.sl 80 (.pr (.wo 63) (.pr .u8 (.by 5)))) l0_1⟩, ow 63 l0_2, ow 63 l0_3, ⟨(.dp false), 78, 1, l0_5.length, .d (.sl 80 (.pr (.wo 63) (.pr .u8 (.by 5)))) l0_5⟩, ow 63 l0_6]⟩ (aP g2 aN) ?_
 refine W_seq ?_
 refine Vrs hT [0, 1, 2, 3, 4, 5] ⟨[(1, kP 0 0), (3, kB r8), (12, kB (!r10))], [], [⟨.blk, 29, 1, 7, .c [.s (.k .i64 l0_0), .wh 1, .wh 2, .wh 3, .s (.b l0_4), .wh 4, .wh 5]⟩, ⟨(.dp false), 78, 1, l0_1.length, .d (.sl 80 (.pr (.wo 63) (.pr .u8 (.by 5)))) l0_1⟩, ow 63 l0_2, ow 63 l0_3, ⟨(.dp false), 78, 1, l0_5.length, .d (.sl 80 (.pr (.wo 63) (.pr .u8 (.by 5)))) l0_5⟩, ow 63 l0_6]⟩ ?_
 refine Vi ((!r10)) (fun g12 => ?_) (fun g12 => ?_)
 ·replace h := bif_t h g12
  refine Vrs hT [] ⟨[(2, kB r8)], [], []⟩ ?_
  refine Vc [] [] (lAsks_R r8) (W_ret ?_)
  exact ⟨.inl rfl, by cases h; rfl⟩
 ·replace h := bif_f h g12
  refine W_skip ?_
  obtain ⟨r16, g3, h⟩ := bind_some' h
  refine Vgs hT (fT 1 (qAsk_ok n r16) fN) [] [] [0, 1, 2, 3, 4, 5, 6] ⟨[(1, kP 0 0), (3, kB r8), (5, kH 6), (6, kE 37 r16.2)], [], [⟨.blk, 29, 1, 7, .c [.s (.k .i64 l0_0), .wh 1, .wh 2, .wh 3, .s (.b l0_4), .wh 4, .wh 5]⟩, ⟨(.dp false), 78, 1, l0_1.length, .d (.sl 80 (.pr (.wo 63) (.pr .u8 (.by 5)))) l0_1⟩, ow 63 l0_2, ow 63 l0_3, ⟨(.dp false), 78, 1, l0_5.length, .d (.sl 80 (.pr (.wo 63) (.pr .u8 (.by 5)))) l0_5⟩, ow 63 l0_6, nb 5 r16.1]⟩ (aP g3 aN) ?_
  obtain ⟨r20, g4, h⟩ := bind_some' h
  refine Vgs hT (fT 1 (qMay_ok n r20) fN) [] [] [0, 1, 2, 3, 4, 5, 6] ⟨[(1, kP 0 0), (3, kB r8), (5, kH 6), (6, kE 37 r16.2), (7, kB r20)], [], [⟨.blk, 29, 1, 7, .c [.s (.k .i64 l0_0), .wh 1, .wh 2, .wh 3, .s (.b l0_4), .wh 4, .wh 5]⟩, ⟨(.dp false), 78, 1, l0_1.length, .d (.sl 80 (.pr (.wo 63) (.pr .u8 (.by 5)))) l0_1⟩, ow 63 l0_2, ow 63 l0_3, ⟨(.dp false), 78, 1, l0_5.length, .d (.sl 80 (.pr (.wo 63) (.pr .u8 (.by 5)))) l0_5⟩, ow 63 l0_6, nb 5 r16.1]⟩ (aP g4 aN) ?_
  refine W_seq ?_
  refine Vrs hT [0, 1, 2, 3, 4, 5, 6] ⟨[(1, kP 0 0), (3, kB r8), (5, kH 6), (6, kE 37 r16.2), (22, kB (!r20))], [], [⟨.blk, 29, 1, 7, .c [.s (.k .i64 l0_0), .wh 1, .wh 2, .wh 3, .s (.b l0_4), .wh 4, .wh 5]⟩, ⟨(.dp false), 78, 1, l0_1.length, .d (.sl 80 (.pr (.wo 63) (.pr .u8 (.by 5)))) l0_1⟩, ow 63 l0_2, ow 63 l0_3, ⟨(.dp false), 78, 1, l0_5.length, .d (.sl 80 (.pr (.wo 63) (.pr .u8 (.by 5)))) l0_5⟩, ow 63 l0_6, nb 5 r16.1]⟩ ?_
  refine Vi ((!r20)) (fun g11 => ?_) (fun g11 => ?_)
  ·replace h := bif_t h g11
   refine W_seq ?_
   rcases Bool.eq_false_or_eq_true r8 with g5 | g5
   ·replace h := bif_t h g5
    obtain ⟨g6, h⟩ := gd_some h
    rcases Bool.eq_false_or_eq_true (r16.2 == (some 1)) with g7 | g7
    ·replace h := bif_t h g7
     refine Vg hT fN [(1, true), (6, true)] [] [] ⟨[(2, kB (((r16.1.length : Nat) : Int) == 0))], [], []⟩ (aP g5 (aP g6 (aP g7 aN))) ?_
     refine Vc [] [] (lAsks_R (((r16.1.length : Nat) : Int) == 0)) (W_ret ?_)
     exact ⟨.inl rfl, by cases h; rfl⟩
    ·replace h := bif_f h g7
     refine Vg hT fN [(1, true), (6, false)] [] [] ⟨[(2, kB false)], [], []⟩ (aP g5 (aP g6 (aP g7 aN))) ?_
     refine Vc [] [] (lAsks_R false) (W_ret ?_)
     exact ⟨.inl rfl, by cases h; rfl⟩
   ·replace h := bif_f h g5
    refine Vg hT fN [(1, false)] [] [] ⟨[(2, kB false)], [], []⟩ (aP g5 aN) ?_
    refine Vc [] [] (lAsks_R false) (W_ret ?_)
    exact ⟨.inl rfl, by cases h; rfl⟩
  ·replace h := bif_f h g11
   refine Vc [] [0, 1, 2, 3, 4, 5, 6] ⟨[(1, kP 0 0), (3, kB r8), (5, kH 6), (6, kE 37 r16.2)], [], [⟨.blk, 29, 1, 7, .c [.s (.k .i64 l0_0), .wh 1, .wh 2, .wh 3, .s (.b l0_4), .wh 4, .wh 5]⟩, ⟨(.dp false), 78, 1, l0_1.length, .d (.sl 80 (.pr (.wo 63) (.pr .u8 (.by 5)))) l0_1⟩, ow 63 l0_2, ow 63 l0_3, ⟨(.dp false), 78, 1, l0_5.length, .d (.sl 80 (.pr (.wo 63) (.pr .u8 (.by 5)))) l0_5⟩, ow 63 l0_6, nb 5 r16.1]⟩ (W_skip ?_)
   refine W_seq ?_
   rcases Bool.eq_false_or_eq_true r8 with g8 | g8
   ·replace h := bif_t h g8
    rcases Bool.eq_false_or_eq_true ((r16.2).isNone) with g9 | g9
    ·replace h := bif_t h g9
     obtain ⟨r43, g10, h⟩ := bind_some' h
     refine Vd hT (fT 9 (qAsk13_ok n r43) fN) 11 [(1, true), (5, true)] [(39, false), (41, false), (44, false)] [] [] ⟨[(2, kB (r16.1 == r43))], [], []⟩ (aP g8 (aP g9 (aP g10 aN))) ?_
     refine Vc [] [] (lAsks_R (r16.1 == r43)) (W_ret ?_)
     exact ⟨.inl rfl, by cases h; rfl⟩
    ·replace h := bif_f h g9
     refine Vd hT fN 11 [(1, true), (5, false)] [(39, false), (41, false), (44, false)] [] [] ⟨[(2, kB false)], [], []⟩ (aP g8 (aP g9 aN)) ?_
     refine Vc [] [] (lAsks_R false) (W_ret ?_)
     exact ⟨.inl rfl, by cases h; rfl⟩
   ·replace h := bif_f h g8
    refine Vd hT fN 11 [(1, false)] [(39, false), (41, false), (44, false)] [] [] ⟨[(2, kB false)], [], []⟩ (aP g8 aN) ?_
    refine Vc [] [] (lAsks_R false) (W_ret ?_)
    exact ⟨.inl rfl, by cases h; rfl⟩
end Go.Proofs.YtiojofjllkhbhaaGreat
end
section
namespace Go.Sx
open Go Go.RowKit Go.Ch Go.Proofs.YtiojofjllkhbhaaGreat
theorem pWrite_is {n : Nat} (hn : 18446744073709551616 ≤ n) {a : List UInt32} (ha : a.length ≤ 1000000) :
  ∃ r, pWrite n a 256 = some r ∧ (64 < (nD (nV a)).length → r = ([], 0, some 4)) ∧ ((nD (nV a)).length ≤ 64 → r.1.length = 256 ∧ nB r.1 = nV a ∧ r.2.1 = 256 ∧ r.2.2 = none) := by
 have h := pWrite_k hn ha (s := 256) (Nat.le_refl _)
 refine ⟨_, h, fun h1 => by rw [if_neg (by omega)], fun h1 => ?_⟩
 have hv : nV a < 256 ^ 256 := by
  have := (D_len (nV a) 64).1 h1
  rwa [show (4294967296 : Nat) ^ 64 = 256 ^ 256 by rw [show (4294967296 : Nat) = 256 ^ 4 by decide, ← Nat.pow_mul]] at this
 rw [if_pos h1, if_pos hv]
 exact ⟨padB_len hv, nB_padB _ _, rfl, rfl⟩
theorem pBig_is {n : Nat} (hn : 18446744073709551616 ≤ n) {a : List UInt32} (ha : a.length ≤ 1000000) : pBig n a = some (if (nD (nV a)).length ≤ 64 then (bigL (nV a), none) else ([], some 4)) := by
 unfold pBig
 obtain ⟨r, hr, h1, h2⟩ := pWrite_is hn ha
 rw [hr, Option.bind_some]
 by_cases h : (nD (nV a)).length ≤ 64
 ·obtain ⟨h3, h4, h5, h6⟩ := h2 h
  rw [if_pos h, h6, ite_f (by rfl), h5, gd_pos (by decide)]
  have := pBig_l1_is n (nV a) 256 n ([0] ++ r.1) (by simp [h3]) (by omega) (by simp [h3]) (by simp) (by rw [List.singleton_append, nB_cons, h4]; simp)
  exact this
 ·rw [if_neg h, h1 (by omega), ite_t (by rfl)]
theorem dB_V (a : List UInt32) : (dB (nV a)).length ≤ 4 * a.length := by
 rw [dB_len, Nat.pow_mul]; exact V_lt a
theorem bigL_le (v : Nat) : (dB v).length ≤ (bigL v).length ∧ (bigL v).length ≤ (dB v).length + 1 := by
 unfold bigL; split
 ·rw [List.length_cons]; omega
 ·omega
theorem mk_2 : ((2 : UInt8) % 32 != 31) = true := by decide
theorem mk_6 : ((6 : UInt8) % 32 != 31) = true := by decide
theorem mk_48 : ((48 : UInt8) % 32 != 31) = true := by decide
theorem mk_165 : ((165 : UInt8) % 32 != 31) = true := by decide
theorem mk_166 : ((166 : UInt8) % 32 != 31) = true := by decide
theorem qelement_is (n : Nat) {m : UInt8} (hm : (m % 32 != 31) = true) {l : List (List UInt8)} {b : List UInt8} (hb : l.flatten = b) (hl : l.length ≤ 100) (h : b.length ≤ 65535) : qelement n m l = some (elF m b) := by
 unfold qelement
 subst hb
 have := hdF_len m ((l.flatten.length : Nat) : Int)
 rw [gd_pos (by omega), gd_pos (by omega), tHead_is n hm (by omega) (by omega), Option.bind_some, ite_f (by rfl)]
 have hr : rmB ((hdF m ((l.flatten.length : Nat) : Int)).length + l.flatten.length) 1 := by unfold rmB; omega
 generalize hh : hdF m ((l.flatten.length : Nat) : Int) = x at hr ⊢
 unfold elF
 rw [hh]
 exact gd_pos hr
theorem qel_is (n : Nat) (m : UInt8) {b : List UInt8} (h : b.length ≤ 1000000) : qel13 n m b = some (elF m b) := by
 unfold qel13; rw [rEl_is n m h]; rfl
theorem qBig10_is {n : Nat} (hn : 18446744073709551616 ≤ n) {a : List UInt32} (ha : a.length ≤ 10000) : qBig10 n a = some (elF 2 (bigL (nV a))) := by
 have h1 := dB_V a
 have h2 := bigL_le (nV a)
 unfold qBig10 qel10
 rw [rBig_is hn ha, Option.bind_some]
 show ((rEl n 2 (bigL (nV a))).bind fun r7 => some r7).bind (fun r5 => some r5) = _
 rw [rEl_is n 2 (by omega)]; rfl
theorem qnumber_is {n : Nat} (hn : 18446744073709551616 ≤ n) {a : List UInt32} (ha : a.length ≤ 10000) : ∃ r, qnumber n a = some r ∧ (r.2 = decide ((nD (nV a)).length ≤ 64)) ∧ ((nD (nV a)).length ≤ 64 → r.1 = elF 2 (bigL (nV a))) := by
 have h1 := dB_V a
 have h2 := bigL_le (nV a)
 unfold qnumber
 rw [pBig_is hn (by omega), Option.bind_some]
 by_cases h : (nD (nV a)).length ≤ 64
 ·rw [if_pos h]
  show ∃ r, ((qelement n 2 [bigL (nV a)]).bind fun r13 => some (r13, (none : Option Int).isNone)) = some r ∧ _
  rw [qelement_is n mk_2 (b := bigL (nV a)) (by simp) (by simp) (by omega), Option.bind_some]
  exact ⟨_, rfl, by simp [h], fun _ => rfl⟩
 ·rw [if_neg h]
  show ∃ r, ((qelement n 2 [[]]).bind fun r13 => some (r13, (some 4 : Option Int).isNone)) = some r ∧ _
  rw [qelement_is n mk_2 (b := []) (by simp) (by simp) (by simp), Option.bind_some]
  exact ⟨_, rfl, by simp [h], fun h' => absurd h' h⟩
theorem rAdd_is' {n : Nat} (hn : 18446744073709551616 ≤ n) {a b : List Int} (hda : Dz a) (hdb : Dz b) (hx : a.length ≤ 900000) (hy : b.length ≤ 900000) : rAdd n a b = some (nE (nZ a + nZ b), (nE (nZ a + nZ b)).length) := by
 have := rAdd_l1_is hn a b hda hdb hx hy (max a.length b.length + 1) 0 n [] 0 (by omega) (by omega) (by omega) rfl Dz.nil (by omega) (by omega) rfl
 exact this
theorem qsmall_is {n : Nat} (hn : 18446744073709551616 ≤ n) {i : Int} (h0 : 0 ≤ i) (h1 : i ≤ 2147483647) : qsmall n i = some (elF 2 (bigL i.toNat)) := by
 obtain ⟨k, rfl⟩ := Int.eq_ofNat_of_zero_le h0
 have hlo : Int.tmod (k : Int) 65536 = ((k % 65536 : Nat) : Int) := tmodN k
 have hhi : Int.tdiv (k : Int) 65536 = ((k / 65536 : Nat) : Int) := tdivN k
 have d1 : Dz [((k / 65536 : Nat) : Int)] := Dz.one ⟨by omega, by omega⟩
 have d2 : Dz [(0 : Int), 1] := fun x hx => by simp at hx; rcases hx with rfl | rfl <;> decide
 have d3 : Dz [((k % 65536 : Nat) : Int)] := Dz.one ⟨by omega, by omega⟩
 have hz1 : nZ [((k / 65536 : Nat) : Int)] = k / 65536 := by rw [Z_cons, Z_nil]; omega
 have hz2 : nZ [(0 : Int), 1] = 65536 := by rw [Z_cons, Z_cons, Z_nil]; rfl
 have hz3 : nZ [((k % 65536 : Nat) : Int)] = k % 65536 := by rw [Z_cons, Z_nil]; omega
 have hl : (nE (k / 65536 * 65536)).length ≤ 10 := (E_len _ _).2 (by omega)
 have hl2 : (nE k).length ≤ 10 := (E_len _ _).2 (by omega)
 have hl3 : (nD k).length ≤ 10 := (D_len _ _).2 (by omega)
 unfold qsmall
 rw [gd_pos (by decide), gd_pos (by decide), hlo, hhi, gd_pos (okI64 (by omega) (by omega)), rMul_is' hn d1 d2 (by simp) (by simp), Option.bind_some, hz1, hz2, rAdd_is' hn d3 (E_dz _) (by simp) (by show (nE _).length ≤ _; omega), Option.bind_some, hz3, Z_E, show k % 65536 + k / 65536 * 65536 = k by omega, rTo_is hn (by omega), Option.bind_some, qBig10_is hn (by omega), Option.bind_some, V_D]
 rfl
theorem vJ_nB : ∀ (l : List UInt8) (s : Int), vJ s l = s * ((256 ^ l.length : Nat) : Int) + (nB l : Int)
 | [], s => by rw [vJ_nil, nB_nil]; simp
 | x :: l, s => by
  rw [vJ_cons, vJ_nB l, nB_cons, List.length_cons, Nat.pow_succ]
  generalize 256 ^ l.length = p
  have h1 : (s * 256 + (x.toNat : Int)) * (p : Int) = s * 256 * (p : Int) + (x.toNat : Int) * (p : Int) := Int.add_mul _ _ _
  have h2 : s * ((p * 256 : Nat) : Int) = s * 256 * (p : Int) := by rw [Int.natCast_mul, Int.mul_comm (p : Int), ← Int.mul_assoc]; rfl
  have h3 : ((nB l + p * x.toNat : Nat) : Int) = (nB l : Int) + (x.toNat : Int) * (p : Int) := by rw [Int.natCast_add, Int.natCast_mul, Int.mul_comm (p : Int)]
  omega
theorem val8_nB (l : List UInt8) : val8 l = sg l * ((256 ^ l.length : Nat) : Int) + (nB l : Int) := vJ_nB l _
theorem int_big {n : Nat} (hn : 100 ≤ n) {i : Int} (h0 : 0 ≤ i) (h1 : i ≤ 2147483647) : pInt n i = some (bigL i.toNat) := by
 obtain ⟨r, hr, hr0, hr8, hv, hs⟩ := pInt_is hn (a := i) (by omega) (by omega)
 have hlt := nB_lt r
 have hcast : (nB r : Int) < ((256 ^ r.length : Nat) : Int) := by exact_mod_cast hlt
 have he := val8_nB r
 rw [hv] at he
 have h128 : (r.getD 0 0).toNat < 128 := by
  by_cases h : 128 ≤ (r.getD 0 0).toNat
  ·have hsg : sg r = -1 := by unfold sg; rw [if_pos h]
   rw [hsg] at he; omega
  ·omega
 have hsg : sg r = 0 := by unfold sg; rw [if_neg (by omega)]
 rw [hsg] at he
 rw [hr, big_of hr0 h128 hs]
 have : nB r = i.toNat := by omega
 rw [← this]
def serOk (v : Nat) : Bool := decide (v ≠ 0) && decide ((bigL v).length ≤ 20)
theorem nE_pos {v : Nat} : 0 < (nE v).length ↔ v ≠ 0 := by
 constructor
 ·rintro h rfl; rw [E_zero] at h; exact absurd h (by decide)
 ·intro h; have := (E_last h).1; omega
theorem qSerial_is {n : Nat} (hn : 18446744073709551616 ≤ n) {a : List UInt32} (ha : a.length ≤ 10000) : qSerial n a = some (serOk (nV a)) := by
 have hE : (nE (nV a)).length ≤ 2 * a.length := by rw [E_len, Nat.pow_mul]; exact V_lt a
 have hb := bigL_le (nV a)
 unfold qSerial serOk
 rw [rOf_is hn (by omega), Option.bind_some]
 dsimp only
 by_cases h0 : nV a = 0
 ·rw [ite_f (decide_eq_false (by have := mt (@nE_pos (nV a)).1 (by simpa using h0); omega)), decide_eq_false (by simpa using h0)]; rfl
 ·have hp := nE_pos.2 h0
  rw [ite_t (decide_eq_true (by omega)), decide_eq_true h0, Bool.true_and, rSize_is n (by omega), Option.bind_some]
  by_cases h1 : (dB (nV a)).length ≤ 20
  ·rw [ite_t (decide_eq_true (by omega)), rBig_is hn ha, Option.bind_some]
   dsimp only
   congr 1
   rw [Bool.eq_iff_iff]; simp only [decide_eq_true_eq]; omega
  ·rw [ite_f (decide_eq_false (by omega)), decide_eq_false (by omega)]
theorem nmA_len {a : nmT} {y : List UInt8} (h : nmA a = some y) : y.length ≤ 6440 := by
 unfold nmA at h
 split at h
 ·obtain ⟨z, hz, rfl⟩ := Option.map_eq_some_iff.1 h
  have h1 := nm_len a z hz
  have h2 := elF_len 48 z
  omega
 ·cases h
theorem elF_22 (b : List UInt8) : (elF 2 b).length ≤ 22 ↔ b.length ≤ 20 := by
 unfold elF hdF
 by_cases h : b.length < 128
 ·rw [decide_eq_true (by omega), cond_true]; simp only [List.length_append, List.length_cons, List.length_nil]; omega
 ·constructor
  ·intro h'; rw [List.length_append] at h'; omega
  ·intro h'; omega
def eldB (y : List UInt8) (v : Nat) : List UInt8 := elF 48 (elF 48 (elF 6 [43, 6, 1, 5, 5, 7, 5, 1, 5] ++ elF 48 (y ++ elF 2 (bigL v))))
theorem eldB_len {y : List UInt8} {v : Nat} (hy : y.length ≤ 6440) (hv : (bigL v).length ≤ 20) : (y ++ elF 2 (bigL v)).length ≤ 6480 ∧ (elF 6 [43, 6, 1, 5, 5, 7, 5, 1, 5] ++ elF 48 (y ++ elF 2 (bigL v))).length ≤ 6520 ∧ (elF 48 (elF 6 [43, 6, 1, 5, 5, 7, 5, 1, 5] ++ elF 48 (y ++ elF 2 (bigL v)))).length ≤ 6530 ∧ (eldB y v).length ≤ 6540 := by
 have h1 := elF_len 2 (bigL v)
 have h2 := elF_len 48 (y ++ elF 2 (bigL v))
 have h3 := elF_len 6 [43, 6, 1, 5, 5, 7, 5, 1, 5]
 have h4 := elF_len 48 (elF 6 [43, 6, 1, 5, 5, 7, 5, 1, 5] ++ elF 48 (y ++ elF 2 (bigL v)))
 have h5 := elF_len 48 (elF 48 (elF 6 [43, 6, 1, 5, 5, 7, 5, 1, 5] ++ elF 48 (y ++ elF 2 (bigL v))))
 simp only [List.length_append, List.length_cons, List.length_nil] at h1 h2 h3 h4 h5 ⊢
 unfold eldB
 omega
theorem qelder_is {n : Nat} (hn : 18446744073709551616 ≤ n) {i : Int} {s : nmT} {N E : List UInt32} {r : Bool} {o : nmT} {a : List UInt32} (ha : a.length ≤ 1000) :
  qelder n i s N E r o a = some (match nmA o with | none => ([], false) | some y => if o.length ≠ 0 ∧ serOk (nV a) = true then (eldB y (nV a), true) else ([], false)) := by
 have hdb := dB_V a
 have hb := bigL_le (nV a)
 unfold qelder
 obtain ⟨q, hq, q1, q2⟩ := qnumber_is hn (a := a) (by omega)
 rw [nWrite_is (by omega), Option.bind_some, hq, Option.bind_some]
 cases hy : nmA o with
 | none => rw [ite_t (by rfl)]
 | some y =>
  have hyl := nmA_len hy
  rw [ite_f (by rfl)]
  dsimp only
  have hD : serOk (nV a) = true → (nD (nV a)).length ≤ 64 := fun h => by
   unfold serOk at h
   simp only [Bool.and_eq_true, decide_eq_true_eq] at h
   rw [D_len_dB]; omega
  by_cases h64 : (nD (nV a)).length ≤ 64
  ·rw [ite_f (by rw [q1]; simp [h64]), q2 h64]
   by_cases h0 : o.length = 0
   ·rw [ite_t (by rw [beq_iff_eq]; omega), if_neg (by simp [h0])]
   ·rw [ite_f (by rw [beq_eq_false_iff_ne]; omega), pCmp_is hn (by omega) (by simp), Option.bind_some, V_nil]
    by_cases hv : nV a = 0
    ·rw [ite_t (by rw [cmpN_eq hv]; rfl), if_neg (by simp [serOk, hv])]
    ·rw [ite_f (by rw [beq_eq_false_iff_ne]; exact fun h => hv (cmpN_zero.1 h))]
     by_cases h22 : (elF 2 (bigL (nV a))).length ≤ 22
     ·have h20 := (elF_22 _).1 h22
      obtain ⟨e1, e2, e3, e4⟩ := eldB_len (v := nV a) hyl h20
      rw [ite_f (decide_eq_false (by omega)), qelement_is n mk_6 (b := [43, 6, 1, 5, 5, 7, 5, 1, 5]) (by simp) (by simp) (by simp), Option.bind_some,
       qelement_is n mk_48 (b := y ++ elF 2 (bigL (nV a))) (by simp) (by simp) (by omega), Option.bind_some,
       qelement_is n mk_48 (b := elF 6 [43, 6, 1, 5, 5, 7, 5, 1, 5] ++ elF 48 (y ++ elF 2 (bigL (nV a)))) (by simp) (by simp) (by omega), Option.bind_some,
       qelement_is n mk_48 (b := elF 48 (elF 6 [43, 6, 1, 5, 5, 7, 5, 1, 5] ++ elF 48 (y ++ elF 2 (bigL (nV a))))) (by simp) (by simp) (by omega), Option.bind_some,
       if_pos ⟨h0, by unfold serOk; rw [decide_eq_true hv, decide_eq_true h20]; rfl⟩]
      rfl
     ·have h20 := mt (elF_22 _).2 h22
      rw [ite_t (decide_eq_true (by omega)), if_neg (by rintro ⟨_, h⟩; unfold serOk at h; simp only [Bool.and_eq_true, decide_eq_true_eq] at h; exact h20 h.2)]
  ·rw [ite_t (by rw [q1]; simp [h64]), if_neg (fun h => h64 (hD h.2))]
def askOk (i : Int) (s : nmT) (N E : Nat) (r : Bool) (o : nmT) (v : Nat) : Bool :=
 (nmA s).isSome && (decide (s.length ≠ 0) && (decide (0 ≤ i) && (decide (i ≤ 2147483647) && (okP N E && (if r then (nmA o).isSome && (decide (o.length ≠ 0) && serOk v) else decide (o.length = 0) && decide (v = 0))))))
theorem qMay_is {n : Nat} (hn : 18446744073709551616 ≤ n) {i : Int} {s : nmT} {N E : List UInt32} {r : Bool} {o : nmT} {a : List UInt32} (hs : s.length ≤ 1000) (ho : o.length ≤ 1000) (hN : N.length ≤ 1000) (hE : E.length ≤ 1000) (ha : a.length ≤ 1000) :
  qMay n i s N E r o a = some (askOk i s (nV N) (nV E) r o (nV a)) := by
 have hEa : (nE (nV a)).length ≤ 2 * a.length := by rw [E_len, Nat.pow_mul]; exact V_lt a
 unfold qMay askOk
 rw [r9Write_is (by omega) (by omega), Option.bind_some]
 cases hy : nmA s with
 | none => rw [ite_t (by rfl)]; rfl
 | some y =>
  rw [ite_f (by rfl), Option.isSome_some, Bool.true_and]
  by_cases h0 : s.length = 0
  ·rw [ite_t (by rw [beq_iff_eq]; omega), decide_eq_false (show ¬ s.length ≠ 0 from fun h => h h0)]; rfl
  ·rw [ite_f (by rw [beq_eq_false_iff_ne]; omega), decide_eq_true (show s.length ≠ 0 from h0), Bool.true_and]
   by_cases h1 : i < 0
   ·rw [ite_t (decide_eq_true h1), decide_eq_false (show ¬ 0 ≤ i by omega)]; rfl
   ·rw [ite_f (decide_eq_false h1), decide_eq_true (show 0 ≤ i by omega), Bool.true_and]
    by_cases h2 : 2147483647 < i
    ·rw [ite_t (decide_eq_true h2), decide_eq_false (show ¬ i ≤ 2147483647 by omega)]; rfl
    ·rw [ite_f (decide_eq_false h2), decide_eq_true (show i ≤ 2147483647 by omega), Bool.true_and, gd_pos (by decide), qPublic_is hn (by omega) (by omega), Option.bind_some]
     cases okP (nV N) (nV E) with
     | false => rw [ite_t (by rfl)]; rfl
     | true =>
      rw [ite_f (by rfl), Bool.true_and]
      cases r with
      | false =>
       rw [ite_t (by rfl), if_neg (by simp)]
       by_cases h3 : o.length = 0
       ·rw [ite_t (by rw [beq_iff_eq]; omega), rOf_is hn (by omega), Option.bind_some, decide_eq_true h3, Bool.true_and]
        congr 1
        rw [Bool.eq_iff_iff]; simp only [beq_iff_eq, decide_eq_true_eq]
        have := @nE_pos (nV a)
        constructor
        ·intro h; by_cases hz : nV a = 0
         ·exact hz
         ·have := this.2 hz; omega
        ·intro h; by_cases hz : (nE (nV a)).length = 0
         ·omega
         ·exact absurd h (this.1 (by omega))
       ·rw [ite_f (by rw [beq_eq_false_iff_ne]; omega), decide_eq_false h3]; rfl
      | true =>
       rw [ite_f (by rfl), if_pos rfl, r9Write_is (by omega) (by omega), Option.bind_some]
       cases hz : nmA o with
       | none => rw [ite_f (by rfl)]; rfl
       | some z =>
        rw [ite_t (by rfl), Option.isSome_some, Bool.true_and]
        by_cases h3 : o.length = 0
        ·rw [ite_f (decide_eq_false (by omega)), decide_eq_false (show ¬ o.length ≠ 0 from fun h => h h3)]; rfl
        ·rw [ite_t (decide_eq_true (by omega)), decide_eq_true (show o.length ≠ 0 from h3), Bool.true_and, qSerial_is hn (by omega), Option.bind_some]
end Go.Sx
end
section
namespace Go.Sx
open Go Go.RowKit Go.Ch Go.Proofs.YtiojofjllkhbhaaGreat
def inB (y : List UInt8) (N E : Nat) : List UInt8 := elF 48 (elF 165 y ++ elF 166 (elF 2 (bigL N) ++ elF 2 (bigL E)))
def askB (i : Int) (y : List UInt8) (N E : Nat) (t : List UInt8) : List UInt8 := elF 48 (elF 2 (bigL i.toNat) ++ (inB y N E ++ t))
theorem inB_len {y : List UInt8} {N E : Nat} (hy : y.length ≤ 6440) (hN : (bigL N).length ≤ 300) (hE : (bigL E).length ≤ 300) : (elF 2 (bigL N) ++ elF 2 (bigL E)).length ≤ 620 ∧ (elF 165 y ++ elF 166 (elF 2 (bigL N) ++ elF 2 (bigL E))).length ≤ 7100 ∧ (inB y N E).length ≤ 7110 := by
 have h1 := elF_len 2 (bigL N)
 have h2 := elF_len 2 (bigL E)
 have h3 := elF_len 165 y
 have h4 := elF_len 166 (elF 2 (bigL N) ++ elF 2 (bigL E))
 have h5 := elF_len 48 (elF 165 y ++ elF 166 (elF 2 (bigL N) ++ elF 2 (bigL E)))
 unfold inB
 simp only [List.length_append] at h1 h2 h3 h4 h5 ⊢
 omega
theorem id_len {i : Int} (h0 : 0 ≤ i) (h1 : i ≤ 2147483647) : (bigL i.toNat).length ≤ 5 ∧ (elF 2 (bigL i.toNat)).length ≤ 9 := by
 have h := (dB_len i.toNat 4).2 (by omega)
 have h2 := bigL_le i.toNat
 have h3 := elF_len 2 (bigL i.toNat)
 omega
theorem okP_len {N E : Nat} (h : okP N E = true) : (nD N).length ≤ 64 ∧ (nD E).length ≤ 64 ∧ (bigL N).length ≤ 300 ∧ (bigL E).length ≤ 300 := by
 obtain ⟨h1, h2, _, _, _, h6⟩ := okP_iff.1 h
 have hE : (dB E).length ≤ (dB N).length := (dB_len _ _).2 (Nat.lt_trans h6 ((dB_len N _).1 (Nat.le_refl _)))
 have b1 := bigL_le N
 have b2 := bigL_le E
 rw [D_len_dB, D_len_dB]; omega
theorem qAsk_is {n : Nat} (hn : 18446744073709551616 ≤ n) {i : Int} {s : nmT} {N E : List UInt32} {r : Bool} {o : nmT} {a : List UInt32} (hN : N.length ≤ 1000) (hE : E.length ≤ 1000) (ha : a.length ≤ 1000) :
  qAsk n i s N E r o a = some (if askOk i s (nV N) (nV E) r o (nV a) = true then (askB i ((nmA s).getD []) (nV N) (nV E) (if r then eldB ((nmA o).getD []) (nV a) else []), none) else ([], some 1)) := by
 unfold qAsk askOk
 rw [nWrite_is (by omega), Option.bind_some]
 cases hy : nmA s with
 | none => rw [ite_t (by rfl)]; rfl
 | some y =>
  have hyl := nmA_len hy
  rw [ite_f (by rfl), Option.isSome_some, Bool.true_and, Option.getD_some]
  dsimp only
  by_cases h0 : s.length = 0
  ·rw [ite_t (by rw [beq_iff_eq]; omega), decide_eq_false (show ¬ s.length ≠ 0 from fun h => h h0)]; rfl
  ·rw [ite_f (by rw [beq_eq_false_iff_ne]; omega), decide_eq_true (show s.length ≠ 0 from h0), Bool.true_and]
   by_cases h1 : i < 0
   ·rw [ite_t (decide_eq_true h1), decide_eq_false (show ¬ 0 ≤ i by omega)]; rfl
   ·rw [ite_f (decide_eq_false h1), decide_eq_true (show 0 ≤ i by omega), Bool.true_and]
    by_cases h2 : 2147483647 < i
    ·rw [ite_t (decide_eq_true h2), decide_eq_false (show ¬ i ≤ 2147483647 by omega)]; rfl
    ·rw [ite_f (decide_eq_false h2), decide_eq_true (show i ≤ 2147483647 by omega), Bool.true_and, gd_pos (by decide), kCheck_is hn (by omega) (by omega), Option.bind_some]
     cases hk : okP (nV N) (nV E) with
     | false => rw [if_neg (by simp), ite_t (by rfl), if_neg (by simp)]
     | true =>
      obtain ⟨k1, k2, k3, k4⟩ := okP_len hk
      obtain ⟨l1, l2, l3⟩ := inB_len hyl k3 k4
      obtain ⟨i1, i2⟩ := id_len (show 0 ≤ i by omega) (show i ≤ 2147483647 by omega)
      obtain ⟨qN, e1, _, e2⟩ := qnumber_is hn (a := N) (by omega)
      obtain ⟨qE, e3, _, e4⟩ := qnumber_is hn (a := E) (by omega)
      rw [if_pos rfl, ite_f (by rfl), Bool.true_and, e1, Option.bind_some, e3, Option.bind_some, int_big (by omega) (by omega) (by omega), Option.bind_some, e2 k1, e4 k2,
       qelement_is n mk_2 (b := bigL i.toNat) (by simp) (by simp) (by omega), Option.bind_some,
       qelement_is n mk_165 (b := y) (by simp) (by simp) (by omega), Option.bind_some,
       qelement_is n mk_166 (b := elF 2 (bigL (nV N)) ++ elF 2 (bigL (nV E))) (by simp) (by simp) (by omega), Option.bind_some,
       qelement_is n mk_48 (b := elF 165 y ++ elF 166 (elF 2 (bigL (nV N)) ++ elF 2 (bigL (nV E)))) (by simp) (by simp) (by omega), Option.bind_some]
      show (bif r then _ else _) = _
      have hj : ∀ t : List UInt8, t.length ≤ 6540 → ∀ l : List (List UInt8), l.flatten = elF 2 (bigL i.toNat) ++ (inB y (nV N) (nV E) ++ t) → l.length ≤ 100 → qAsk_j1 n l = some (askB i y (nV N) (nV E) t, none) := fun t ht l hl hll => by
       unfold qAsk_j1
       rw [qelement_is n mk_48 hl hll (by simp only [List.length_append]; omega)]
       rfl
      cases r with
      | false =>
       rw [ite_f (by rfl)]
       show _ = some (if (decide (o.length = 0) && decide (nV a = 0)) = true then (askB i y (nV N) (nV E) [], none) else ([], some 1))
       by_cases h3 : o.length = 0
       ·rw [ite_f (decide_eq_false (by omega)), decide_eq_true h3, Bool.true_and, pCmp_is hn (by omega) (by simp), Option.bind_some, V_nil]
        by_cases h4 : nV a = 0
        ·rw [ite_f (by rw [cmpN_eq h4]; rfl), hj [] (by simp) _ (by simp [inB]) (by simp), decide_eq_true h4, if_pos rfl]
        ·rw [ite_t (by rw [bne_iff_ne]; exact fun h => h4 (cmpN_zero.1 h)), decide_eq_false h4, if_neg (by simp)]
       ·rw [ite_t (decide_eq_true (by omega)), decide_eq_false h3, if_neg (by simp)]
      | true =>
       rw [ite_t (by rfl), qelder_is hn ha, Option.bind_some]
       show _ = some (if ((nmA o).isSome && (decide (o.length ≠ 0) && serOk (nV a))) = true then (askB i y (nV N) (nV E) (eldB ((nmA o).getD []) (nV a)), none) else ([], some 1))
       cases hz : nmA o with
       | none => dsimp only; rw [ite_t (by rfl), if_neg (by simp)]
       | some z =>
        have hzl := nmA_len hz
        dsimp only
        rw [Option.isSome_some, Bool.true_and, Option.getD_some]
        by_cases h3 : o.length = 0
        ·rw [if_neg (fun h => h.1 h3), ite_t (by rfl), decide_eq_false (show ¬ o.length ≠ 0 from fun h => h h3), if_neg (by simp)]
        ·rw [decide_eq_true (show o.length ≠ 0 from h3), Bool.true_and]
         cases hs : serOk (nV a) with
         | false => rw [if_neg (fun h => by cases h.2), ite_t (by rfl), if_neg (by simp)]
         | true =>
          have hs' := hs
          unfold serOk at hs'
          simp only [Bool.and_eq_true, decide_eq_true_eq] at hs'
          have hel := (eldB_len (v := nV a) hzl hs'.2).2.2.2
          rw [if_pos ⟨h3, rfl⟩, ite_f (by rfl), gd_pos (by unfold rmB; omega), hj _ hel _ (by simp [inB]) (by simp), if_pos rfl]
theorem body_kind : bodyOf [1, 3, 6, 1, 5, 5, 7, 5, 1, 5] = [43, 6, 1, 5, 5, 7, 5, 1, 5] := by decide +kernel
theorem qAsk13_is {n : Nat} (hn : 18446744073709551616 ≤ n) {i : Int} {s : nmT} {N E : List UInt32} {r : Bool} {o : nmT} {a : List UInt32} (hs : s.length ≤ 1000) (ho : o.length ≤ 1000) (hN : N.length ≤ 1000) (hE : E.length ≤ 1000) (ha : a.length ≤ 1000)
  (h : askOk i s (nV N) (nV E) r o (nV a) = true) :
  qAsk13 n i s N E r o a = some (askB i ((nmA s).getD []) (nV N) (nV E) (if r then eldB ((nmA o).getD []) (nV a) else [])) := by
 unfold askOk at h
 simp only [Bool.and_eq_true, decide_eq_true_eq] at h
 obtain ⟨h1, h2, h3, h4, h5, h6⟩ := h
 obtain ⟨y, hy⟩ := Option.isSome_iff_exists.1 h1
 have hyl := nmA_len hy
 obtain ⟨k1, k2, k3, k4⟩ := okP_len h5
 obtain ⟨l1, l2, l3⟩ := inB_len hyl k3 k4
 obtain ⟨i1, i2⟩ := id_len h3 h4
 have hp : ∀ t : List UInt8, t.length ≤ 100000 → rmB t.length 1 := fun t ht => by unfold rmB; omega
 have hp2 : ∀ t u : List UInt8, (t ++ u).length ≤ 100000 → rmB (t.length + u.length) 1 := fun t u ht => by rw [← List.length_append]; exact hp _ ht
 have b3 : (elF 2 (bigL i.toNat) ++ inB y (nV N) (nV E)).length ≤ 7200 := by rw [List.length_append]; omega
 unfold qAsk13
 rw [r9Write_is (by omega) (by omega), Option.bind_some, hy, Option.getD_some, qBig10_is hn (by omega), Option.bind_some, qBig10_is hn (by omega), Option.bind_some, gd_pos (hp2 _ _ (by omega)), qsmall_is hn h3 h4, Option.bind_some]
 show ((qel13 n 165 y).bind _) = _
 rw [qel_is n 165 (by omega), Option.bind_some, qel_is n 166 (by omega), Option.bind_some, gd_pos (hp2 _ _ (by omega)), qel_is n 48 (by omega), Option.bind_some]
 rw [show elF 48 (elF 165 y ++ elF 166 (elF 2 (bigL (nV N)) ++ elF 2 (bigL (nV E)))) = inB y (nV N) (nV E) from rfl, gd_pos (hp2 _ _ (by omega))]
 have hj : ∀ t : List UInt8, t.length ≤ 6540 → qAsk13_j1 n ((elF 2 (bigL i.toNat) ++ inB y (nV N) (nV E)) ++ t) = some (askB i y (nV N) (nV E) t) := fun t ht => by
  unfold qAsk13_j1
  rw [qel_is n 48 (by rw [List.length_append]; omega), Option.bind_some, List.append_assoc]
  rfl
 cases r with
 | false =>
  rw [ite_f (by rfl), if_neg (by simp)]
  have := hj [] (by simp)
  rw [List.append_nil] at this
  exact this
 | true =>
  rw [if_pos rfl] at h6
  simp only [Bool.and_eq_true, decide_eq_true_eq] at h6
  obtain ⟨h7, h8, h9⟩ := h6
  obtain ⟨z, hz⟩ := Option.isSome_iff_exists.1 h7
  have hzl := nmA_len hz
  unfold serOk at h9
  simp only [Bool.and_eq_true, decide_eq_true_eq] at h9
  obtain ⟨e1, e2, e3, e4⟩ := eldB_len (v := nV a) hzl h9.2
  rw [ite_t (by rfl), r9Write_is (by omega) (by omega), Option.bind_some, hz, Option.getD_some, qBig10_is hn (by omega), Option.bind_some]
  dsimp only
  rw [gd_pos (hp2 _ _ (by omega)), qel_is n 48 (by omega), Option.bind_some, rOidBody_is (by omega) (by simp) (by simp), Option.bind_some, body_kind, qel_is n 6 (by simp), Option.bind_some, gd_pos (hp2 _ _ (by omega)), qel_is n 48 (by omega), Option.bind_some, qel_is n 48 (by omega), Option.bind_some]
  rw [show elF 48 (elF 48 (elF 6 [43, 6, 1, 5, 5, 7, 5, 1, 5] ++ elF 48 (z ++ elF 2 (bigL (nV a))))) = eldB z (nV a) from rfl, gd_pos (hp2 _ _ (by rw [List.length_append]; omega)), if_pos rfl]
  exact hj _ e4
theorem few_l2 (n : Nat) (a : nmT) {i : Nat} (hi : i < a.length) (hil : a.length ≤ 100) (hs : (a.getD i []).length ≤ 100) {K : Int → Option Bool} (hK : ∃ b, K ((i + 1 : Nat) : Int) = some b) : ∀ (fu t : Nat), t ≤ (a.getD i []).length → (a.getD i []).length < t + fu → ∃ b, qfew_l2 n a (i : Int) K fu (t : Int) = some b
 | 0, t, h1, h2 => by omega
 | fu + 1, t, h1, h2 => by
  have e : ((i : Int)).toNat = i := by omega
  rw [qfew_l2, gd_pos (by omega), gd_pos (by omega), e]
  by_cases h : t < (a.getD i []).length
  ·rw [ite_t (decide_eq_true (by omega)), gd_pos (by omega), gd_pos (by omega), gd_pos (by omega), gd_pos (by omega)]
   generalize decide ((200 : Int) < _) = c1
   cases c1 with
   | true => exact ⟨_, rfl⟩
   | false =>
    rw [ite_f rfl, gd_pos (by omega), gd_pos (by omega), gd_pos (by omega), gd_pos (by omega)]
    generalize decide ((30 : Int) < _) = c2
    cases c2 with
    | true => exact ⟨_, rfl⟩
    | false =>
     rw [ite_f rfl, gd_pos (okI64 (by omega) (by omega)), show ((t : Int) + 1) = ((t + 1 : Nat) : Int) by omega]
     exact few_l2 n a hi hil hs hK fu (t + 1) (by omega) (by omega)
  ·rw [ite_f (decide_eq_false (by omega)), gd_pos (okI64 (by omega) (by omega)), show ((i : Int) + 1) = ((i + 1 : Nat) : Int) by omega]
   exact hK
theorem few_l1 {n : Nat} (hn : 1000 ≤ n) (a : nmT) (hil : a.length ≤ 100) : ∀ (fu t : Nat), t ≤ a.length → a.length < t + fu → ∃ b, qfew_l1 n a fu (t : Int) = some b
 | 0, t, h1, h2 => by omega
 | fu + 1, t, h1, h2 => by
  have e : ((t : Int)).toNat = t := by omega
  rw [qfew_l1]
  by_cases h : t < a.length
  ·rw [ite_t (decide_eq_true (by omega)), gd_pos (by omega), gd_pos (by omega), e]
   by_cases h10 : 10 < (a.getD t []).length
   ·rw [ite_t (decide_eq_true (by omega))]; exact ⟨_, rfl⟩
   ·rw [ite_f (decide_eq_false (by omega))]
    exact few_l2 n a h hil (by omega) (few_l1 hn a hil fu (t + 1) (by omega) (by omega)) n 0 (Nat.zero_le _) (by omega)
  ·rw [ite_f (decide_eq_false (by omega))]; exact ⟨_, rfl⟩
theorem few_is {n : Nat} (hn : 1000 ≤ n) (a : nmT) : ∃ b, qfew n a = some b ∧ (b = true → a.length ≤ 20) := by
 unfold qfew
 by_cases h : 20 < a.length
 ·rw [ite_t (decide_eq_true (by omega))]; exact ⟨_, rfl, fun h => by cases h⟩
 ·rw [ite_f (decide_eq_false (by omega))]
  obtain ⟨b, hb⟩ := few_l1 hn a (by omega) n 0 (Nat.zero_le _) (by omega)
  exact ⟨b, hb, fun _ => by omega⟩
theorem light_is {n : Nat} (hn : 1000 ≤ n) (i : Int) (s : nmT) (N E : List UInt32) (r : Bool) (o : nmT) (a : List UInt32) : ∃ b, qLight n i s N E r o a = some b ∧ (b = true → s.length ≤ 20 ∧ o.length ≤ 20 ∧ N.length ≤ 70 ∧ E.length ≤ 70 ∧ a.length ≤ 70) := by
 obtain ⟨b1, e1, h1⟩ := few_is hn s
 obtain ⟨b2, e2, h2⟩ := few_is hn o
 unfold qLight
 rw [e1, Option.bind_some]
 cases b1 with
 | false => exact ⟨_, rfl, fun h => by cases h⟩
 | true =>
  rw [cond_true, e2, Option.bind_some]
  cases b2 with
  | false => exact ⟨_, rfl, fun h => by cases h⟩
  | true =>
   rw [cond_true]
   by_cases h3 : N.length ≤ 70
   ·rw [ite_t (decide_eq_true (by omega))]
    by_cases h4 : E.length ≤ 70
    ·rw [ite_t (decide_eq_true (by omega))]
     refine ⟨_, rfl, fun h => ?_⟩
     have h5 := of_decide_eq_true h
     exact ⟨h1 rfl, h2 rfl, h3, h4, by omega⟩
    ·rw [ite_f (decide_eq_false (by omega))]; exact ⟨_, rfl, fun h => by cases h⟩
   ·rw [ite_f (decide_eq_false (by omega))]; exact ⟨_, rfl, fun h => by cases h⟩
theorem up13 : qup NB = some true := by decide +kernel
theorem lAsks_is (i : Int) (s : nmT) (N E : List UInt32) (r : Bool) (o : nmT) (a : List UInt32) : lAsks NB i s N E r o a = some true := by
 have hn := NB_ok
 unfold lAsks
 rw [up13, Option.bind_some]
 obtain ⟨b, e1, h1⟩ := light_is (n := NB) (by omega) i s N E r o a
 rw [e1, Option.bind_some]
 cases b with
 | false => rw [ite_t (by rfl)]
 | true =>
  obtain ⟨g1, g2, g3, g4, g5⟩ := h1 rfl
  rw [ite_f (by rfl), qAsk_is hn (by omega) (by omega) (by omega), Option.bind_some, qMay_is hn (by omega) (by omega) (by omega) (by omega) (by omega), Option.bind_some]
  cases h : askOk i s (nV N) (nV E) r o (nV a) with
  | false =>
   rw [ite_t (by rfl), ite_t (by rfl), if_neg (by simp), gd_pos (by simp), ite_t (by rfl)]; rfl
  | true =>
   rw [ite_f (by rfl), ite_t (by rfl), if_pos rfl, ite_t (by rfl), qAsk13_is hn (by omega) (by omega) (by omega) (by omega) (by omega) h, Option.bind_some]
   simp
end Go.Sx
end
section
namespace Go.Proofs.YtiojofjllkhbhaaGreat
open Go.RowKit Go.Ch Go.Sx
theorem requestAsks_c (w : World) (i : Int) (S N E O A : Value) (r : Bool) (ls lo : List (List (List UInt32 × (UInt8 × List UInt8)))) (ln le la : List UInt32) (qs qo : Pl) (hS : S = .slice qs.A qs.n qs.cap)
  (hs : ∀ ρ, objR ρ w qs ⟨.dp false, 78, 1, ls.length, .d (.sl 80 (.pr (.wo 63) (.pr .u8 (.by 5)))) ls⟩) {BN BE BA : Nat} (hN : Sl w BN N (ln.map w32)) (hE : Sl w BE E (le.map w32)) (hO : O = .slice qo.A qo.n qo.cap)
  (ho : ∀ ρ, objR ρ w qo ⟨.dp false, 78, 1, lo.length, .d (.sl 80 (.pr (.wo 63) (.pr .u8 (.by 5)))) lo⟩) (hA : Sl w BA A (la.map w32)) :
  Calls Tryz.prog 3 #[.agg #[.int .i64 i, S, N, E, .bool r, O, A]] w (Ret fun v' w' => Ext w w' ∧ v' = .bool true) := by
 obtain ⟨pN, aN, bN⟩ := in_w hN 63
 obtain ⟨pE, aE, bE⟩ := in_w hE 63
 obtain ⟨pA, aA, bA⟩ := in_w hA 63
 exact law_of (lAsks_ok NB true) (args := [.g 7 (.c [.s (.k .i64 i), .wh 0, .wh 1, .wh 2, .s (.b r), .wh 3, .wh 4])])
  (H := [⟨.dp false, 78, 1, ls.length, .d (.sl 80 (.pr (.wo 63) (.pr .u8 (.by 5)))) ls⟩, ⟨.ro false, 63, 1, ln.length, .w ln⟩, ⟨.ro false, 63, 1, le.length, .w le⟩, ⟨.dp false, 78, 1, lo.length, .d (.sl 80 (.pr (.wo 63) (.pr .u8 (.by 5)))) lo⟩, ⟨.ro false, 63, 1, la.length, .w la⟩])
  (ρ := plL [qs, pN, pE, qo, pA]) (vals := [.agg #[.int .i64 i, S, N, E, .bool r, O, A]]) rfl (allP_cons.2 ⟨lAsks_is i ls ln le r lo la, allP_nil⟩) trivial
  (hpL (ps := [qs, pN, pE, qo, pA]) (F2.cons hs (F2.cons bN (F2.cons bE (F2.cons ho (F2.cons bA F2.nil))))))
  (F2.cons ⟨[.int .i64 i, S, N, E, .bool r, O, A], (F2.cons rfl (F2.cons hS (F2.cons aN (F2.cons aE (F2.cons rfl (F2.cons hO (F2.cons aA F2.nil))))))), rfl, rfl⟩ F2.nil)
end Go.Proofs.YtiojofjllkhbhaaGreat
end
section
namespace Go.Sx
open Go Go.ChangeShapes Go.WideShapes Go.RowKit Go.Ch
def bInt (P : Program) (k : IntKind) (t : TypeId) : Bool := match P.underlying t with | some (.int k') => decide (k' = k) | _ => false
def bSlI (P : Program) (k : IntKind) (t : TypeId) : Bool := match P.underlying t with | some (.slice e) => bInt P k e && P.cellsOf e == 1 | _ => false
def bSl (P : Program) (sz : Nat) (f : TypeId → Bool) (t : TypeId) : Bool := match P.underlying t with | some (.slice e) => P.cellsOf e == sz && f e | _ => false
def bF1 (P : Program) (sz : Nat) (f : TypeId → Bool) (fs : List Field) (off : Nat) : Bool := match fs with | [g] => g.offset == off && P.cellsOf g.type == sz && f g.type | _ => false
def bPr (P : Program) (sa : Nat) (f : TypeId → Bool) (g : List Field → Nat → Bool) (fs : List Field) (off : Nat) : Bool := match fs with | h :: r => h.offset == off && P.cellsOf h.type == sa && f h.type && g r (off + sa) | _ => false
def bSt (P : Program) (sz : Nat) (f : List Field → Nat → Bool) (t : TypeId) : Bool := match P.underlying t with | some (.struct fs) => P.cellsOf t == sz && f fs.toList 0 | _ => false
structure Shb where
 t : TypeId → Bool
 f : List Field → Nat → Bool
def shB1 (P : Program) (sz : Nat) (f : TypeId → Bool) : Shb := ⟨f, bF1 P sz f⟩
def shB (P : Program) : Dsh → Shb
 | .u8 => shB1 P 1 (bInt P .u8)
 | .u32 => shB1 P 1 (bInt P .u32)
 | .i64 => shB1 P 1 (bInt P .i64)
 | .by _ => shB1 P 1 (bSlI P .u8)
 | .wo _ => shB1 P 1 (bSlI P .u32)
 | .sl _ x => shB1 P 1 (bSl P x.sz (shB P x).t)
 | .pr a b => ⟨bSt P (a.sz + b.sz) (bPr P a.sz (shB P a).t (shB P b).f), bPr P a.sz (shB P a).t (shB P b).f⟩
section
variable {H : Type} {enc : TypeId × Value → H} {P : Program} {W : World} {base : Nat} {held : Bool}
def OpE (enc : TypeId × Value → H) (P : Program) (W : World) (base : Nat) (held : Bool) (x : Dsh) (t : TypeId) : Prop := ∀ (fuel : Nat) (cs : List Value) (y : DataW H × List MemPlace), DataW.trod enc P W base (fun _ => true) held fuel t cs = some y → ∃ v, RdE W x cs v
theorem op_int {k : IntKind} {t : TypeId} (ht : P.underlying t = some (.int k)) {fuel : Nat} {cs : List Value} {y : DataW H × List MemPlace} (h : DataW.trod enc P W base (fun _ => true) held fuel t cs = some y) : ∃ n, cs = [.int k n] ∧ (Lit.int k n).wf = true := by
 obtain ⟨n, h1, _, h2⟩ := DataW.trod_int ht h
 exact ⟨n, h1, h2⟩
theorem op_u8 {t : TypeId} (ht : P.underlying t = some (.int .u8)) : OpE enc P W base held .u8 t := fun fuel cs y h => by
 obtain ⟨n, rfl, hw⟩ := op_int ht h
 refine ⟨UInt8.ofNat n.toNat, RdE.s1 (fun gv hg => ?_) rfl⟩
 show gv _ = bU _
 rw [hg]
 simp [Lit.wf, IntKind.min, IntKind.max, IntKind.signed, IntKind.bits] at hw
 unfold bU
 congr 1
 simp
 omega
theorem op_u32 {t : TypeId} (ht : P.underlying t = some (.int .u32)) : OpE enc P W base held .u32 t := fun fuel cs y h => by
 obtain ⟨n, rfl, hw⟩ := op_int ht h
 obtain ⟨x, hx⟩ := u32_of_int hw
 exact ⟨x, RdE.s1 (fun gv hg => by show gv _ = w32 _; rw [hg, hx]) rfl⟩
theorem op_i64 {t : TypeId} (ht : P.underlying t = some (.int .i64)) : OpE enc P W base held .i64 t := fun fuel cs y h => by
 obtain ⟨n, rfl, hw⟩ := op_int ht h
 exact ⟨n, RdE.s1 (fun gv hg => by show gv _ = _; rw [hg]) rfl⟩
theorem op_by {t e : TypeId} (e' : TypeId) (ht : P.underlying t = some (.slice e)) (he : P.underlying e = some (.int .u8)) (hc : P.cellsOf e = 1) : OpE enc P W base held (.by e') t := fun fuel cs y h => by
 rcases open_ints ht he hc h with ⟨rfl, _⟩ | ⟨x, l, c, zs, rfl, _, hl, hm, hz, _, hcell, hwz⟩
 ·exact ⟨[], RdE.by e' (sl_of_row (k := .u8) (w := W) (zs := []) (.inl ⟨rfl, rfl, rfl, rfl⟩)).1⟩
 ·obtain ⟨h1, h2⟩ := sl_of_row (k := .u8) (w := W) (zs := zs) (.inr ⟨_, rfl, hl, hm, by simpa using hz, hcell, hwz⟩)
  obtain ⟨l, hl⟩ := bytes_of_ints h2
  exact ⟨l, RdE.by e' (by rw [← hl]; exact h1)⟩
theorem op_wo {t e : TypeId} (e' : TypeId) (ht : P.underlying t = some (.slice e)) (he : P.underlying e = some (.int .u32)) (hc : P.cellsOf e = 1) : OpE enc P W base held (.wo e') t := fun fuel cs y h => by
 rcases open_ints ht he hc h with ⟨rfl, _⟩ | ⟨x, l, c, zs, rfl, _, hl, hm, hz, _, hcell, hwz⟩
 ·exact ⟨[], RdE.wo e' (sl_of_row (k := .u32) (w := W) (zs := []) (.inl ⟨rfl, rfl, rfl, rfl⟩)).1⟩
 ·obtain ⟨h1, h2⟩ := sl_of_row (k := .u32) (w := W) (zs := zs) (.inr ⟨_, rfl, hl, hm, by simpa using hz, hcell, hwz⟩)
  obtain ⟨l, hl, _⟩ := words_of_ints h2
  exact ⟨l, RdE.wo e' (by rw [← hl]; exact h1)⟩
def w2 (W : World) (a : Addr) (off n : Nat) (vs : List Value) : Prop := vs.length = n ∧ ∀ j u, vs[j]? = some u → W.cell? ((a.add off).add j) = some u
theorem w2_of {W : World} {base : Nat} {a : Addr} {off n : Nat} {vs : List Value} (h : W.cells? base (a.add off) n = some vs) : w2 W a off n vs := by
 obtain ⟨_, h1, h2⟩ := World.cells?_some h
 refine ⟨h1, fun j u hu => ?_⟩
 have hj : j < n := by rw [← h1]; exact (List.getElem?_eq_some_iff.1 hu).1
 rw [h2 j hj]; exact hu
theorem op_sl {t e : TypeId} {x : Dsh} (e' : TypeId) (ht : P.underlying t = some (.slice e)) (hc : P.cellsOf e = x.sz) (hx : OpE enc P W base held x e) : OpE enc P W base held (.sl e' x) t := fun fuel cs y h => by
 have hpos := x.sz_pos
 rcases DataW.trod_slice ht h with ⟨rfl, _⟩ | ⟨a, len, cap, elems, rest, n, rfl, rfl, _, hb, hl, hm, hlen, hel, _⟩
 ·refine ⟨([] : List x.T), RdE.sl0 e' (F := fun _ => False) (gv := fun _ => .slice none 0 0) rfl (fun g hg => hg.elim) ⟨none, 0, rfl, Nat.le_refl _, by simp [maxLen], fun _ => rfl, fun ad ha _ => (nomatch ha), fun k y hy => (nomatch hy)⟩⟩
 ·have each : ∀ i, i < len → ∃ vs : List Value, w2 W a (i * x.sz) x.sz vs ∧ ∃ v, RdE W x vs v := fun i hi => by
   have h1 := hel i hi
   rw [List.getElem?_eq_getElem (by omega), hc] at h1
   cases hcs : W.cells? base (a.add (i * x.sz)) x.sz with
   | none => rw [hcs] at h1; cases h1
   | some vs =>
    rw [hcs] at h1
    exact ⟨vs, w2_of hcs, hx n vs _ h1⟩
  have each' : ∀ i, ∃ p : List Value × x.T, i < len → w2 W a (i * x.sz) x.sz p.1 ∧ RdE W x p.1 p.2 := fun i => by
   by_cases hi : i < len
   ·obtain ⟨vs, h1, v, h2⟩ := each i hi
    exact ⟨(vs, v), fun _ => ⟨h1, h2⟩⟩
   ·exact ⟨([], x.df), fun h => absurd h hi⟩
  obtain ⟨pf, hpf⟩ := Classical.axiomOfChoice each'
  let l : List x.T := (List.range len).map fun i => (pf i).2
  have hll : l.length = len := by simp [l]
  let vs : List Value := (List.range (len * x.sz)).map fun j => (pf (j / x.sz)).1.getD (j % x.sz) undef
  have hvl : vs.length = len * x.sz := by simp [vs]
  have hvs : ∀ k g, k < len → g < x.sz → vs[k * x.sz + g]? = (pf k).1[g]? := fun k g hk hg => by
   have h1 : k * x.sz + g < len * x.sz := by
    have := Nat.mul_le_mul_right x.sz (show k + 1 ≤ len by omega)
    rw [Nat.add_mul, Nat.one_mul] at this; omega
   have e1 : (k * x.sz + g) / x.sz = k := by rw [Nat.add_comm, Nat.add_mul_div_right _ _ hpos, Nat.div_eq_of_lt hg, Nat.zero_add]
   have e2 : (k * x.sz + g) % x.sz = g := by rw [Nat.add_comm, Nat.add_mul_mod_self_right, Nat.mod_eq_of_lt hg]
   have hlen2 := ((hpf k hk).1).1
   show ((List.range (len * x.sz)).map fun j => (pf (j / x.sz)).1.getD (j % x.sz) undef)[k * x.sz + g]? = _
   rw [List.getElem?_map, List.getElem?_range h1]
   show some ((pf ((k * x.sz + g) / x.sz)).1.getD ((k * x.sz + g) % x.sz) undef) = _
   rw [e1, e2, List.getD_eq_getElem?_getD, List.getElem?_eq_getElem (by omega)]; rfl
  obtain ⟨F, gv, g1, g2, g3⟩ := DR.mk (w := W) (x := x) (l := l) (A := some a) (cap := cap) e' (by rw [hll]; exact hl) hm (fun h => nomatch h) vs (fun ad had j u hu => by
   injection had with had; subst had
   have hj : j < len * x.sz := by rw [← hvl]; exact (List.getElem?_eq_some_iff.1 hu).1
   have hk : j / x.sz < len := Nat.div_lt_of_lt_mul (by rw [Nat.mul_comm]; exact hj)
   have hg : j % x.sz < x.sz := Nat.mod_lt _ hpos
   have := hvs _ _ hk hg
   rw [Nat.div_add_mod'] at this
   rw [this] at hu
   have h3 := ((hpf _ hk).1).2 _ u hu
   rwa [add_add, Nat.div_add_mod'] at h3) (by rw [hvl, hll]) (fun k y hy => by
   have hk : k < len := by rw [← hll]; exact (List.getElem?_eq_some_iff.1 hy).1
   have hy' : y = (pf k).2 := by
    have : l[k]? = some y := hy
    simp only [l, List.getElem?_map, List.getElem?_range hk, Option.map_some, Option.some.injEq] at this
    exact this.symm
   subst hy'
   obtain ⟨F, gv, d1, d2, d3⟩ := (hpf k hk).2
   exact ⟨F, gv, fun g hg => by rw [d1 g hg, hvs k g hk hg], d2, d3⟩)
  exact ⟨l, RdE.sl0 e' (g1.trans (by rw [hll])) g2 g3⟩
theorem op_struct {t : TypeId} {fs : Array Field} {x : Dsh} (ht : P.underlying t = some (.struct fs)) (hx : ∀ (cs : List Value), cs.length = P.cellsOf t → (∀ f ∈ fs.toList, ∃ n y, DataW.trod enc P W base (fun _ => true) held n f.type ((cs.drop f.offset).take (P.cellsOf f.type)) = some y) → ∃ v, RdE W x cs v) : OpE enc P W base held x t := fun fuel cs y h => by
 obtain ⟨xs, n, _, _, hl, hxl, hel⟩ := DataW.trod_struct ht h
 refine hx cs hl fun f hf => ?_
 obtain ⟨i, hi⟩ := List.mem_iff_getElem?.1 hf
 have h1 := hel i f (by rw [← Array.getElem?_toList]; exact hi)
 have hlt : i < xs.length := by rw [hxl, ← Array.length_toList]; exact (List.getElem?_eq_some_iff.1 hi).1
 rw [List.getElem?_eq_getElem hlt] at h1
 exact ⟨n, _, h1⟩
def OpF (enc : TypeId × Value → H) (P : Program) (W : World) (base : Nat) (held : Bool) (x : Dsh) (fs : List Field) (off : Nat) : Prop := ∀ (cs : List Value), off + x.sz ≤ cs.length → (∀ f ∈ fs, ∃ n y, DataW.trod enc P W base (fun _ => true) held n f.type ((cs.drop f.offset).take (P.cellsOf f.type)) = some y) → ∃ v, RdE W x ((cs.drop off).take x.sz) v
theorem op_f1 {x : Dsh} {f : Field} {off : Nat} (h1 : f.offset = off) (h2 : P.cellsOf f.type = x.sz) (hx : OpE enc P W base held x f.type) : OpF enc P W base held x [f] off := fun cs _ hf => by
 obtain ⟨n, y, h⟩ := hf f (by simp)
 rw [h1, h2] at h
 exact hx n _ y h
theorem op_f2 {a b : Dsh} {f : Field} {fs : List Field} {off : Nat} (h1 : f.offset = off) (h2 : P.cellsOf f.type = a.sz) (ha : OpE enc P W base held a f.type) (hb : OpF enc P W base held b fs (off + a.sz)) : OpF enc P W base held (.pr a b) (f :: fs) off := fun cs hl hf => by
 have hl' : off + (a.sz + b.sz) ≤ cs.length := hl
 obtain ⟨v, hv⟩ := op_f1 h1 h2 ha cs (by omega) (fun g hg => hf g (by simp at hg; simp [hg]))
 obtain ⟨u, hu⟩ := hb cs (by omega) (fun g hg => hf g (by simp [hg]))
 refine ⟨(v, u), RdE.pr ?_ ?_⟩
 ·rw [List.take_take]
  have : min a.sz (Dsh.pr a b).sz = a.sz := by show min a.sz (a.sz + b.sz) = _; omega
  rw [this]; exact hv
 ·rw [List.drop_take, List.drop_drop]
  have : (Dsh.pr a b).sz - a.sz = b.sz := by show a.sz + b.sz - a.sz = _; omega
  rw [this]; exact hu
structure OpOk (enc : TypeId × Value → H) (P : Program) (W : World) (base : Nat) (held : Bool) (x : Dsh) (s : Shb) : Prop where
 t : ∀ t, s.t t = true → OpE enc P W base held x t
 f : ∀ fs off, s.f fs off = true → OpF enc P W base held x fs off
theorem bInt_ok {k : IntKind} {t : TypeId} (h : bInt P k t = true) : P.underlying t = some (.int k) := by
 unfold bInt at h
 split at h
 ·rename_i k' hk; rw [hk, of_decide_eq_true h]
 ·cases h
theorem bSlI_ok {k : IntKind} {t : TypeId} (h : bSlI P k t = true) : ∃ e, P.underlying t = some (.slice e) ∧ P.underlying e = some (.int k) ∧ P.cellsOf e = 1 := by
 unfold bSlI at h
 split at h
 ·rename_i e he
  simp only [Bool.and_eq_true, beq_iff_eq] at h
  exact ⟨e, he, bInt_ok h.1, h.2⟩
 ·cases h
theorem op1 {x : Dsh} {f : TypeId → Bool} (hx : x.sz = 1) (h : ∀ t, f t = true → OpE enc P W base held x t) : OpOk enc P W base held x (shB1 P 1 f) := by
 refine ⟨h, fun fs off hf => ?_⟩
 have hf' : bF1 P 1 f fs off = true := hf
 unfold bF1 at hf'
 split at hf'
 ·simp only [Bool.and_eq_true, beq_iff_eq] at hf'
  exact op_f1 hf'.1.1 (hf'.1.2.trans hx.symm) (h _ hf'.2)
 ·cases hf'
theorem opPr {a b : Dsh} {s s' : Shb} (ha : OpOk enc P W base held a s) (hb : OpOk enc P W base held b s') (fs : List Field) (off : Nat) (h : bPr P a.sz s.t s'.f fs off = true) : OpF enc P W base held (.pr a b) fs off := by
 unfold bPr at h
 split at h
 ·simp only [Bool.and_eq_true, beq_iff_eq] at h
  exact op_f2 h.1.1.1 h.1.1.2 (ha.t _ h.1.2) (hb.f _ _ h.2)
 ·cases h
theorem opP2 {a b : Dsh} {s s' : Shb} (ha : OpOk enc P W base held a s) (hb : OpOk enc P W base held b s') : OpOk enc P W base held (.pr a b) ⟨bSt P (a.sz + b.sz) (bPr P a.sz s.t s'.f), bPr P a.sz s.t s'.f⟩ := by
 refine ⟨fun t h => ?_, fun fs off h => opPr ha hb fs off h⟩
 have h' : bSt P (a.sz + b.sz) (bPr P a.sz s.t s'.f) t = true := h
 unfold bSt at h'
 split at h'
 ·rename_i fs ht
  simp only [Bool.and_eq_true, beq_iff_eq] at h'
  refine op_struct ht fun cs hl hf => ?_
  have := opPr ha hb _ 0 h'.2 cs (by show 0 + (a.sz + b.sz) ≤ _; omega) hf
  rw [List.drop_zero, List.take_of_length_le (by rw [hl, h'.1]; exact Nat.le_refl _)] at this
  exact this
 ·cases h'
theorem op_of : ∀ (x : Dsh), OpOk enc P W base held x (shB P x)
 | .u8 => op1 rfl fun _ h => op_u8 (bInt_ok h)
 | .u32 => op1 rfl fun _ h => op_u32 (bInt_ok h)
 | .i64 => op1 rfl fun _ h => op_i64 (bInt_ok h)
 | .by e => op1 rfl fun _ h => by obtain ⟨_, h1, h2, h3⟩ := bSlI_ok h; exact op_by e h1 h2 h3
 | .wo e => op1 rfl fun _ h => by obtain ⟨_, h1, h2, h3⟩ := bSlI_ok h; exact op_wo e h1 h2 h3
 | .sl e x => op1 rfl fun _ h => by
  unfold bSl at h
  split at h
  ·rename_i ht
   simp only [Bool.and_eq_true, beq_iff_eq] at h
   exact op_sl e ht h.1 ((op_of x).t _ h.2)
  ·cases h
 | .pr a b => opP2 (op_of a) (op_of b)
end
end Go.Sx
end
section
namespace Go.Sx
open Go Go.ChangeShapes Go.WideShapes Go.RowKit Go.Ch
theorem words_of_intsA {zs : List Int} (h : ∀ z ∈ zs, (Lit.int .u32 z).wf = true) : ∃ ws : List UInt32, zs.map (Value.int .u32) = ws.map w32 := by
 induction zs with
 | nil => exact ⟨[], rfl⟩
 | cons z zs ih =>
  obtain ⟨ws, h1⟩ := ih (fun y hy => h y (by simp [hy]))
  have h2 := h z (by simp)
  simp [Lit.wf, IntKind.min, IntKind.max, IntKind.signed, IntKind.bits] at h2
  refine ⟨UInt32.ofNat z.toNat :: ws, ?_⟩
  rw [List.map_cons, List.map_cons, h1]
  congr 1
  unfold w32
  congr 1
  simp
  omega
section
variable {H : Type} {enc : TypeId × Value → H} {P : Program} {W : World} {held : Bool}
theorem open_w {t e : TypeId} {a : Value} {m : Nat} {x : DataW H × List MemPlace} (ht : P.underlying t = some (.slice e)) (he : P.underlying e = some (.int .u32)) (hc : P.cellsOf e = 1) (h : DataW.trod enc P W 0 (fun _ => true) held m t [a] = some x) :
  ∃ ws : List UInt32, Sl W W.heap.size a (ws.map w32) := by
 obtain ⟨d, p⟩ := x
 rcases open_ints ht he hc h with ⟨hcs, _⟩ | ⟨x, l, c, zs, hcs, _, hl, hm, hz, _, hcell, hwz⟩
 ·simp [Value.cells] at hcs
  subst hcs
  exact ⟨[], (sl_of_row (k := .u32) (w := W) (zs := []) (.inl ⟨rfl, rfl, rfl, rfl⟩)).1⟩
 ·simp [Value.cells] at hcs
  subst hcs
  obtain ⟨h1, h2⟩ := sl_of_row (k := .u32) (w := W) (zs := zs) (.inr ⟨_, rfl, hl, hm, by simpa using hz, hcell, hwz⟩)
  obtain ⟨l, hl⟩ := words_of_intsA h2
  exact ⟨l, by rw [← hl]; exact h1⟩
theorem open_d {x : Dsh} {e t : TypeId} {a : Value} {m : Nat} {y : DataW H × List MemPlace} (hb : (shB P (.sl e x)).t t = true) (h : DataW.trod enc P W 0 (fun _ => true) held m t [a] = some y) :
  ∃ (l : List x.T) (q : Pl), a = .slice q.A q.n q.cap ∧ ∀ ρ, objR ρ W q ⟨.dp false, e, x.sz, l.length, .d x l⟩ := by
 obtain ⟨l, hl⟩ := (op_of (enc := enc) (P := P) (W := W) (base := 0) (held := held) (.sl e x)).t t hb m _ _ h
 obtain ⟨q, h1, h2⟩ := RdE.root (fun _ h => h) hl e
 exact ⟨l, q, h1, h2⟩
theorem open_ask {t e ew : TypeId} {x : Dsh} {fs ks : Array Field} {f0 f1 f2 f3 f4 f5 k0 k1 : Field} {v : Value} {d : DataW H} {p : List MemPlace} {base : Nat} (ht : P.underlying t = some (.struct fs))
  (g0 : fs[0]? = some f0) (g1 : fs[1]? = some f1) (g2 : fs[2]? = some f2) (g3 : fs[3]? = some f3) (g4 : fs[4]? = some f4) (g5 : fs[5]? = some f5)
  (o0 : f0.offset = 0) (o1 : f1.offset = 1) (o2 : f2.offset = 2) (o3 : f3.offset = 4) (o4 : f4.offset = 5) (o5 : f5.offset = 6)
  (c0 : P.cellsOf f0.type = 1) (c1 : P.cellsOf f1.type = 1) (c2 : P.cellsOf f2.type = 2) (c3 : P.cellsOf f3.type = 1) (c4 : P.cellsOf f4.type = 1) (c5 : P.cellsOf f5.type = 1) (hct : P.cellsOf t = 7)
  (u0 : P.underlying f0.type = some (.int .i64)) (b1 : (shB P (.sl e x)).t f1.type = true) (u2 : P.underlying f2.type = some (.struct ks)) (u3 : P.underlying f3.type = some .bool) (b4 : (shB P (.sl e x)).t f4.type = true) (u5 : P.underlying f5.type = some (.slice ew))
  (m0 : ks[0]? = some k0) (m1 : ks[1]? = some k1) (n0 : k0.offset = 0) (n1 : k1.offset = 1) (r0 : P.cellsOf k0.type = 1) (r1 : P.cellsOf k1.type = 1) (w0 : P.underlying k0.type = some (.slice ew)) (w1 : P.underlying k1.type = some (.slice ew))
  (ue : P.underlying ew = some (.int .u32)) (ce : P.cellsOf ew = 1)
  (hok : Value.okWide P W .any base t v) (h : DataW.Trod enc P W 0 (fun _ => true) held t v d p) :
  ∃ (i : Int) (S N E O A : Value) (r : Bool) (ls lo : List x.T) (ln le la : List UInt32) (qs qo : Pl), v = .agg #[.int .i64 i, S, N, E, .bool r, O, A] ∧ S = .slice qs.A qs.n qs.cap ∧ (∀ ρ, objR ρ W qs ⟨.dp false, e, x.sz, ls.length, .d x ls⟩) ∧ Sl W W.heap.size N (ln.map w32) ∧ Sl W W.heap.size E (le.map w32) ∧
   O = .slice qo.A qo.n qo.cap ∧ (∀ ρ, objR ρ W qo ⟨.dp false, e, x.sz, lo.length, .d x lo⟩) ∧ Sl W W.heap.size A (la.map w32) := by
 obtain ⟨cs, rfl, hsz, _⟩ : ∃ cs, v = .agg cs ∧ cs.size = P.cellsOf t ∧ Row.okWide P W .any base t cs := by
  simpa [Value.okWide, ht] using hok
 obtain ⟨fuel, hf⟩ := h
 obtain ⟨xs, m, _, _, hl0, hxl, hel⟩ := DataW.trod_struct ht hf
 obtain ⟨l⟩ := cs
 have hlen : l.length = 7 := by rw [← hct]; exact hsz
 match l, hlen with
 | [a0, a1, a2, a3, a4, a5, a6], _ =>
  have s5 : 5 < fs.size := (Array.getElem?_eq_some_iff.1 g5).1
  have h0 := hel 0 f0 g0
  have h1 := hel 1 f1 g1
  have h2 := hel 2 f2 g2
  have h3 := hel 3 f3 g3
  have h4 := hel 4 f4 g4
  have h5 := hel 5 f5 g5
  rw [c0, o0, List.getElem?_eq_getElem (by omega)] at h0
  rw [c1, o1, List.getElem?_eq_getElem (by omega)] at h1
  rw [c2, o2, List.getElem?_eq_getElem (by omega)] at h2
  rw [c3, o3, List.getElem?_eq_getElem (by omega)] at h3
  rw [c4, o4, List.getElem?_eq_getElem (by omega)] at h4
  rw [c5, o5, List.getElem?_eq_getElem (by omega)] at h5
  have h0' : DataW.trod enc P W 0 (fun _ => true) held m f0.type [a0] = _ := h0
  have h1' : DataW.trod enc P W 0 (fun _ => true) held m f1.type [a1] = _ := h1
  have h2' : DataW.trod enc P W 0 (fun _ => true) held m f2.type [a2, a3] = _ := h2
  have h3' : DataW.trod enc P W 0 (fun _ => true) held m f3.type [a4] = _ := h3
  have h4' : DataW.trod enc P W 0 (fun _ => true) held m f4.type [a5] = _ := h4
  have h5' : DataW.trod enc P W 0 (fun _ => true) held m f5.type [a6] = _ := h5
  obtain ⟨z, hz, _, _⟩ := DataW.trod_int u0 h0'
  have hb : a0 = .int .i64 z := by simpa [Value.cells] using hz
  subst hb
  obtain ⟨r, hr, _⟩ := DataW.trod_bool u3 h3'
  have hb : a4 = .bool r := by simpa using hr
  subst hb
  obtain ⟨ls, qs, e1, e2⟩ := open_d b1 h1'
  obtain ⟨lo, qo, e3, e4⟩ := open_d b4 h4'
  obtain ⟨la, e5⟩ := open_w u5 ue ce h5'
  obtain ⟨ys, m', _, _, hl1, hyl, hey⟩ := DataW.trod_struct u2 h2'
  have t1 : 1 < ks.size := (Array.getElem?_eq_some_iff.1 m1).1
  have k0' := hey 0 k0 m0
  have k1' := hey 1 k1 m1
  rw [r0, n0, List.getElem?_eq_getElem (by omega)] at k0'
  rw [r1, n1, List.getElem?_eq_getElem (by omega)] at k1'
  have k0'' : DataW.trod enc P W 0 (fun _ => true) held m' k0.type [a2] = _ := k0'
  have k1'' : DataW.trod enc P W 0 (fun _ => true) held m' k1.type [a3] = _ := k1'
  obtain ⟨ln, e6⟩ := open_w w0 ue ce k0''
  obtain ⟨le, e7⟩ := open_w w1 ue ce k1''
  exact ⟨z, a1, a2, a3, a5, a6, r, ls, lo, ln, le, la, qs, qo, rfl, e1, e2, e6, e7, e3, e4, e5⟩
end
end Go.Sx
end
