import Derived.Test.YthichmclbiggmaaDoorZ5
import Derived.Test.YthichmclbiggmaaDoorProg
import Derived.Test.YthichmclbiggmaaDoorRows
import Derived.Test.YthichmclbiggmaaDoorChecked
import Derived.WalkKit
import Derived.ProofKit
import Derived.OpenShut
import Derived.ShutString
import Derived.ChangeOld
import Derived.Below
set_option linter.unusedVariables false
set_option linter.unusedSimpArgs false
section
namespace Go.Sx
open Go Go.RowKit Go.Ch Go.Proofs.YthichmclbiggmaaDoor
theorem zpos {l : List Int} (h : l.length ≠ 0) : nZ l = nZ (l.take (l.length - 1)) + 65536 ^ (l.length - 1) * (l.getD (l.length - 1) 0).toNat := by
 have h1 := Z_take l (l.length - 1) (by omega)
 rwa [show l.length - 1 + 1 = l.length by omega, List.take_length] at h1
theorem lastZ {l : List Int} (h : l ≠ []) : l.getLast h = l.getD (l.length - 1) 0 := by
 have : l.length - 1 < l.length := by have := List.length_pos_iff.2 h; omega
 rw [List.getLast_eq_getElem, List.getD_eq_getElem?_getD, List.getElem?_eq_getElem this]; rfl
theorem Dz.get {l : List Int} (h : Dz l) (i : Nat) : 0 ≤ l.getD i 0 ∧ l.getD i 0 < 65536 := by
 by_cases hi : i < l.length
 ·rw [List.getD_eq_getElem?_getD, List.getElem?_eq_getElem hi]; exact h _ (List.getElem_mem hi)
 ·rw [List.getD_eq_getElem?_getD, List.getElem?_eq_none (by omega)]; decide
theorem Dz.take {l : List Int} (h : Dz l) (i : Nat) : Dz (l.take i) := fun x hx => h x (List.mem_of_mem_take hx)
theorem Dz.app {l m : List Int} (h : Dz l) (h2 : Dz m) : Dz (l ++ m) := fun x hx => (List.mem_append.1 hx).elim (h x) (h2 x)
theorem Dz.one {x : Int} (h : 0 ≤ x ∧ x < 65536) : Dz [x] := fun y hy => by rw [List.mem_singleton.1 hy]; exact h
theorem Dz.nil : Dz [] := fun x hx => by cases hx
theorem Dz.rep (n : Nat) : Dz (List.replicate n 0) := fun x hx => by rw [(List.mem_replicate.1 hx).2]; decide
theorem Dz.set {l : List Int} (h : Dz l) {x : Int} (hx : 0 ≤ x ∧ x < 65536) (i : Nat) : Dz (l.set i x) := fun y hy => (List.mem_or_eq_of_mem_set hy).elim (h y) fun e => by rw [e]; exact hx
theorem rtrim_l1_is (n : Nat) (a : List Int) (hd : Dz a) (ha : a.length ≤ 1000000) : ∀ (k fu : Nat), k < fu → k ≤ a.length → nZ (a.take k) = nZ a →
  ∃ m, rtrim_l1 n a fu (k : Int) = some (a, m) ∧ a.take m = nE (nZ a) ∧ m = (nE (nZ a)).length := by
 intro k
 have fin : ∀ k, k ≤ a.length → a.take k = nE (nZ a) → k = (nE (nZ a)).length := fun k h1 h2 => by rw [← h2, List.length_take]; omega
 induction k with
 | zero =>
  intro fu hf hk he
  cases fu with
  | zero => omega
  | succ fu =>
   have h0 : nZ a = 0 := by rw [← he]; rfl
   have h1 : a.take 0 = nE (nZ a) := by rw [h0, E_zero]; rfl
   exact ⟨0, by rw [rtrim_l1, ite_f (by simp), gd_pos (by omega), gd_pos (by omega)]; rfl, h1, fin 0 hk h1⟩
 | succ k ih =>
  intro fu hf hk he
  cases fu with
  | zero => omega
  | succ fu =>
   have e : (((k + 1 : Nat) : Int) - 1) = (k : Int) := by omega
   rw [rtrim_l1, ite_t (by simp <;> omega), e, gd_pos (okI64 (by omega) (by omega)), gd_pos (by omega), gd_pos (by omega), Int.toNat_natCast]
   have h1 := Z_take a k (by omega)
   by_cases hz : a.getD k 0 = 0
   ·rw [ite_t (by rw [hz]; rfl), gd_pos (okI64 (by omega) (by omega))]
    rw [hz] at h1
    exact ih fu (by omega) (by omega) (by rw [← he, h1]; rfl)
   ·rw [ite_f (by simp only [beq_eq_false_iff_ne]; exact hz), gd_pos (by omega), gd_pos (by omega)]
    have hl : (a.take (k + 1)).length = k + 1 := by rw [List.length_take]; omega
    have h2 : a.take (k + 1) = nE (nZ a) := by
     rw [← he]
     refine (E_Z (hd.take _) fun hn => ?_).symm
     rw [lastZ hn, hl, Nat.add_sub_cancel, List.getD_eq_getElem?_getD, List.getElem?_take_of_lt (by omega), ← List.getD_eq_getElem?_getD]
     exact hz
    exact ⟨k + 1, by rw [show (((k + 1 : Nat) : Int)).toNat = k + 1 by omega], h2, fin _ hk h2⟩
theorem rtrim_is {n : Nat} (hn : 18446744073709551616 ≤ n) {a : List Int} (hd : Dz a) (ha : a.length ≤ 1000000) : rtrim n a = some (a, (nE (nZ a)).length) ∧ (a.drop 0).take (nE (nZ a)).length = nE (nZ a) := by
 obtain ⟨m, h1, h2, h3⟩ := rtrim_l1_is n a hd ha a.length n (by omega) (Nat.le_refl _) (by rw [List.take_length])
 subst h3
 exact ⟨h1, h2⟩
theorem rOf_l1_is {n : Nat} (hn : 18446744073709551616 ≤ n) (a : List UInt32) (ha : a.length ≤ 100000) : ∀ (m i fu : Nat) (z : List Int), i + m = a.length → m < fu → z.length = 2 * i → Dz z → nZ z = nV (a.take i) →
  rOf_l1 n a fu z (i : Int) = some (nE (nV a), (nE (nV a)).length) := by
 intro m
 induction m with
 | zero =>
  intro i fu z hi hf hz hd he
  cases fu with
  | zero => omega
  | succ fu =>
   rw [List.take_of_length_le (by omega)] at he
   obtain ⟨h1, h2⟩ := rtrim_is hn hd (by omega)
   rw [rOf_l1, ite_f (by simp <;> omega), h1]
   simp only [Option.bind_some]
   rw [h2, he]
 | succ m ih =>
  intro i fu z hi hf hz hd he
  cases fu with
  | zero => omega
  | succ fu =>
   rw [rOf_l1, ite_t (by simp <;> omega), gd_pos (by omega), gd_pos (by omega), gd_pos (by decide), gd_pos (by omega), gd_pos (by omega), gd_pos (by decide), gd_pos (by unfold rmB; omega), gd_pos (okI64 (by omega) (by omega)), Int.toNat_natCast]
   have hX := u32_lt (a.getD i 0)
   have e1 : (a.getD i 0 % 65536).toNat = (a.getD i 0).toNat % 65536 := UInt32.toNat_mod _ _
   have e2 : (a.getD i 0 / 65536).toNat = (a.getD i 0).toNat / 65536 := UInt32.toNat_div _ _
   rw [e1, e2]
   refine ih (i + 1) fu _ (by omega) (by omega) (by simp <;> omega) (hd.app (by
    intro x hx
    rcases List.mem_cons.1 hx with rfl | hx
    ·omega
    ·rw [List.mem_singleton.1 hx]; omega)) ?_
   rw [Z_app, he, V_take', hz, Z_cons, Z_cons, Z_nil, Int.toNat_natCast, Int.toNat_natCast, Nat.pow_mul]
   have hdm := Nat.mod_add_div (a.getD i 0).toNat 65536
   show _ + 4294967296 ^ i * _ = _
   generalize (a.getD i 0).toNat % 65536 = x at *
   generalize (a.getD i 0).toNat / 65536 = y at *
   rw [← hdm]; rfl
theorem rOf_is {n : Nat} (hn : 18446744073709551616 ≤ n) {a : List UInt32} (ha : a.length ≤ 100000) : rOf n a = some (nE (nV a), (nE (nV a)).length) :=
 rOf_l1_is hn a ha a.length 0 n [] (by omega) (by omega) rfl Dz.nil rfl
theorem rdigit_is (n : Nat) (a : List Int) (i : Nat) : rdigit n a (i : Int) = some (a.getD i 0) := by
 unfold rdigit
 by_cases h : i < a.length
 ·rw [ite_t (by simp <;> omega), gd_pos (by omega), gd_pos (by omega), Int.toNat_natCast]
 ·rw [ite_f (by simp <;> omega), List.getD_eq_getElem?_getD, List.getElem?_eq_none (by omega)]; rfl
theorem rCmp_l1_is (n : Nat) (u v : List Int) (hu : Dz u) (hv : Dz v) (lu : Nat) (h1 : u.length = lu) (h2 : v.length = lu) (hlu : lu ≤ 1000000) : ∀ (j fu : Nat), j < fu → j ≤ lu → nZ (u.drop j) = nZ (v.drop j) →
  rCmp_l1 n u v fu ((j : Int) - 1) = some (cmpN (nZ u) (nZ v)) := by
 intro j
 induction j with
 | zero =>
  intro fu hf _ he
  cases fu with
  | zero => omega
  | succ fu => rw [rCmp_l1, ite_f (by simp), cmpN_eq (by simpa using he)]
 | succ j ih =>
  intro fu hf hj he
  cases fu with
  | zero => omega
  | succ fu =>
   have e : (((j + 1 : Nat) : Int) - 1) = (j : Int) := by omega
   have e1 := Z_drop u j (by omega)
   have e2 := Z_drop v j (by omega)
   have s1 := Z_split u j
   have s2 := Z_split v j
   have l1 := Z_lt (hu.take j)
   have l2 := Z_lt (hv.take j)
   have m1 : (u.take j).length = j := by simp; omega
   have m2 : (v.take j).length = j := by simp; omega
   have g1 := hu.get j
   have g2 := hv.get j
   rw [m1] at l1; rw [m2] at l2
   rw [e, rCmp_l1, ite_t (by simp), gd_pos (by omega), gd_pos (by omega), gd_pos (by omega), gd_pos (by omega)]
   simp only [Int.toNat_natCast]
   by_cases hne : u.getD j 0 = v.getD j 0
   ·rw [ite_f (by rw [hne]; simp), gd_pos (okI64 (by omega) (by omega))]
    exact ih fu (by omega) (by omega) (by rw [e1, e2, hne, he])
   ·rw [ite_t (by simp only [bne_iff_ne]; exact hne), gd_pos (by omega), gd_pos (by omega), gd_pos (by omega), gd_pos (by omega)]
    by_cases hlt : u.getD j 0 < v.getD j 0
    ·rw [ite_t (by simp only [decide_eq_true_eq]; exact hlt), cmpN_lt]
     rw [s1, s2]
     exact mul_pow_lt l1 (by omega)
    ·rw [ite_f (by simp only [decide_eq_false_iff_not]; exact hlt), cmpN_gt]
     rw [s1, s2]
     exact mul_pow_lt l2 (by omega)
theorem E_mono {x y : Nat} (h : x ≤ y) : (nE x).length ≤ (nE y).length := (E_len _ _).2 (Nat.lt_of_le_of_lt h ((E_len _ _).1 (Nat.le_refl _)))
theorem rCmp_is {n : Nat} (hn : 18446744073709551616 ≤ n) {x y : Nat} (ha : (nE x).length ≤ 1000000) (hb : (nE y).length ≤ 1000000) : rCmp n (nE x) (nE y) = some (cmpN x y) := by
 unfold rCmp
 by_cases h : (nE x).length < (nE y).length
 ·rw [ite_t (by simp <;> omega), ite_t (by simp <;> omega), cmpN_lt]
  refine Nat.lt_of_not_le fun h' => ?_
  have := E_mono h'; omega
 ·by_cases h' : (nE y).length < (nE x).length
  ·rw [ite_t (by simp <;> omega), ite_f (by simp <;> omega), cmpN_gt]
   refine Nat.lt_of_not_le fun h' => ?_
   have := E_mono h'; omega
  ·rw [ite_f (by simp <;> omega), gd_pos (okI64 (by omega) (by omega))]
   have hl : (nE y).length = (nE x).length := by omega
   have := rCmp_l1_is n (nE x) (nE y) (E_dz x) (E_dz y) (nE x).length rfl hl (by omega) (nE x).length n (by omega) (by omega) (by
    rw [List.drop_of_length_le (by omega), List.drop_of_length_le (by omega)])
   rw [Z_E, Z_E] at this
   exact this
theorem ppos (i : Nat) : 0 < 65536 ^ i := Nat.pow_pos (by decide)
theorem pow6 (i : Nat) : 65536 ^ (i + 1) = 65536 * 65536 ^ i := by rw [Nat.pow_succ, Nat.mul_comm]
theorem Z_take' (l : List Int) (i : Nat) : nZ (l.take (i + 1)) = nZ (l.take i) + 65536 ^ i * (l.getD i 0).toNat := by
 by_cases h : i < l.length
 ·exact Z_take l i h
 ·rw [List.take_of_length_le (by omega), List.take_of_length_le (by omega), List.getD_eq_getElem?_getD, List.getElem?_eq_none (by omega)]; simp
theorem tmodN (t : Nat) : Int.tmod (t : Int) 65536 = ((t % 65536 : Nat) : Int) := by rw [Int.tmod_eq_emod_of_nonneg (by omega)]; omega
theorem tdivN (t : Nat) : Int.tdiv (t : Int) 65536 = ((t / 65536 : Nat) : Int) := by rw [Int.tdiv_eq_ediv_of_nonneg (by omega)]; omega
theorem Dz.nat {l : List Int} (h : Dz l) (i : Nat) : l.getD i 0 = (((l.getD i 0).toNat : Nat) : Int) ∧ (l.getD i 0).toNat < 65536 := by
 have := h.get i; omega
theorem trim_is {n : Nat} (hn : 18446744073709551616 ≤ n) {a : List Int} (hd : Dz a) (ha : a.length ≤ 1000000) : ((rtrim n a).bind fun r => some (((a.drop 0).take r.2), r.2)) = some (nE (nZ a), (nE (nZ a)).length) := by
 obtain ⟨h1, h2⟩ := rtrim_is hn hd ha
 rw [h1]
 simp only [Option.bind_some]
 rw [h2]
theorem rSub_l1_is {n : Nat} (hn : 18446744073709551616 ≤ n) (a b : List Int) (hda : Dz a) (hdb : Dz b) (ha : a.length ≤ 900000) (hb : b.length ≤ a.length) (hab : nZ b ≤ nZ a) : ∀ (m i fu : Nat) (z : List Int) (c : Nat), i + m = a.length → m < fu → z.length = i → Dz z → c ≤ 1 → nZ z + nZ (b.take i) = nZ (a.take i) + 65536 ^ i * c →
  rSub_l1 n a b fu z (c : Int) (i : Int) = some (nE (nZ a - nZ b), (nE (nZ a - nZ b)).length) := by
 intro m
 induction m with
 | zero =>
  intro i fu z c h1 hf hz hd hc he
  cases fu with
  | zero => omega
  | succ fu =>
   rw [rSub_l1, ite_f (by simp <;> omega)]
   rw [List.take_of_length_le (by omega), List.take_of_length_le (by omega)] at he
   have h2 := Z_lt hd
   rw [hz] at h2
   have h3 : nZ z = nZ a - nZ b := by
    cases c with
    | zero => omega
    | succ c =>
     obtain rfl : c = 0 := by omega
     omega
   rw [trim_is hn hd (by omega), h3]
 | succ m ih =>
  intro i fu z c h1 hf hz hd hc he
  cases fu with
  | zero => omega
  | succ fu =>
   obtain ⟨ea, la⟩ := hda.nat i
   obtain ⟨eb, lb⟩ := hdb.nat i
   rw [rSub_l1, ite_t (by simp <;> omega), gd_pos (by omega), gd_pos (by omega), rdigit_is, Option.bind_some, Int.toNat_natCast, ea, eb, gd_pos (okI64 (by omega) (by omega)), gd_pos (okI64 (by omega) (by omega))]
   generalize (a.getD i 0).toNat = x at *
   generalize hg : (b.getD i 0).toNat = y at *
   have step : ∀ (d c' : Nat), d < 65536 → c' ≤ 1 → d + y + c = x + 65536 * c' → rSub_j1 n a b z (i : Int) (rSub_l1 n a b fu) (c' : Int) (d : Int) = some (nE (nZ a - nZ b), (nE (nZ a - nZ b)).length) := by
    intro d c' hd1 hc1 h
    unfold rSub_j1
    rw [gd_pos (by unfold rmB; omega), gd_pos (okI64 (by omega) (by omega))]
    refine ih (i + 1) fu _ _ (by omega) (by omega) (by rw [List.length_append, hz]; rfl) (hd.app (Dz.one ⟨by omega, by omega⟩)) hc1 ?_
    rw [Z_take', Z_take', Z_app, Z_cons, Z_nil, hz, pow6, Int.toNat_natCast, hg, show (a.getD i 0).toNat = x by omega]
    generalize 65536 ^ i = p at *
    clear ih
    have : p * (d + y + c) = p * (x + 65536 * c') := by rw [h]
    grind
   by_cases hlt : x < y + c
   ·rw [ite_t (by simp <;> omega), gd_pos (okI64 (by omega) (by omega)), show (x : Int) - (y : Int) - (c : Int) + 65536 = ((x + 65536 - y - c : Nat) : Int) by omega]
    exact step _ 1 (by omega) (by omega) (by omega)
   ·rw [ite_f (by simp <;> omega), show (x : Int) - (y : Int) - (c : Int) = ((x - y - c : Nat) : Int) by omega]
    exact step _ 0 (by omega) (by omega) (by omega)
theorem rSub_is {n : Nat} (hn : 18446744073709551616 ≤ n) {x y : Nat} (hx : (nE x).length ≤ 900000) (hxy : y ≤ x) : rSub n (nE x) (nE y) = some (nE (x - y), (nE (x - y)).length) := by
 have := rSub_l1_is hn (nE x) (nE y) (E_dz x) (E_dz y) hx (E_mono hxy) (by rw [Z_E, Z_E]; exact hxy) (nE x).length 0 n [] 0 (by omega) (by omega) rfl Dz.nil (by omega) rfl
 rw [Z_E, Z_E] at this
 exact this
def Nzz (l : List Int) (i : Nat) : Prop := ∀ k, i ≤ k → l.getD k 0 = 0
theorem getD_repZ (n k : Nat) : (List.replicate n (0 : Int)).getD k 0 = 0 := by
 rw [List.getD_eq_getElem?_getD, List.getElem?_replicate]; split <;> rfl
theorem Nzz.set {l : List Int} {i : Nat} (h : Nzz l i) (x : Int) : Nzz (l.set i x) (i + 1) := by
 intro k hk
 rw [getD_set_ne _ _ (by omega)]; exact h k (by omega)
theorem Nzz.Z_set {l : List Int} {i : Nat} (h : Nzz l i) (x : Int) (hi : i < l.length) : nZ (l.set i x) = nZ l + 65536 ^ i * x.toNat := by
 have := Go.Sx.Z_set l i x hi
 rw [h i (by omega)] at this
 simpa using this
theorem rMul_l2_is (n : Nat) (a b : List Int) (hda : Dz a) (hdb : Dz b) (ha : a.length ≤ 900000) (hb : b.length ≤ 90000) (i : Nat) (hi : i < a.length) (K : List Int → Int → Option (List Int × Nat)) (v0 : Nat) :
  ∀ (m k fu : Nat) (w : List Int) (c : Nat), k + m = b.length → m < fu → w.length = a.length + b.length → Dz w → Nzz w (i + b.length) → nZ w + 65536 ^ (i + k) * c = v0 + 65536 ^ i * ((a.getD i 0).toNat * nZ (b.take k)) → c < 65536 →
  ∃ w' : List Int, w'.length = a.length + b.length ∧ Dz w' ∧ Nzz w' (i + 1 + b.length) ∧ nZ w' = v0 + 65536 ^ i * ((a.getD i 0).toNat * nZ b) ∧ rMul_l2 n a b (i : Int) K fu w (c : Int) (k : Int) = K w' ((i + 1 : Nat) : Int) := by
 intro m
 induction m with
 | zero =>
  intro k fu w c hk hf hw hd hz hv hc
  cases fu with
  | zero => omega
  | succ fu =>
   refine ⟨w.set (i + b.length) (c : Int), by rw [List.length_set]; exact hw, hd.set ⟨by omega, by omega⟩ _, ?_, ?_, ?_⟩
   ·have := hz.set (c : Int)
    rwa [show i + b.length + 1 = i + 1 + b.length by omega] at this
   ·rw [hz.Z_set _ (by omega), Int.toNat_natCast]
    rwa [List.take_of_length_le (by omega), show k = b.length by omega] at hv
   ·rw [rMul_l2, ite_f (by simp <;> omega), gd_pos (okI64 (by omega) (by omega)), gd_pos (by omega), gd_pos (by omega), gd_pos (okI64 (by omega) (by omega))]
    rw [show ((i : Int) + (b.length : Nat)).toNat = i + b.length by omega]; rfl
 | succ m ih =>
  intro k fu w c hk hf hw hd hz hv hc
  cases fu with
  | zero => omega
  | succ fu =>
   have e1 : ((i : Int) + (k : Nat)).toNat = i + k := by omega
   obtain ⟨ea, la⟩ := hda.nat i
   obtain ⟨eb, lb⟩ := hdb.nat k
   obtain ⟨ew, lw⟩ := hd.nat (i + k)
   have hAB : (a.getD i 0).toNat * (b.getD k 0).toNat ≤ 65535 * 65535 := Nat.mul_le_mul (by omega) (by omega)
   have hV := Z_set w (i + k) (((c + (a.getD i 0).toNat * (b.getD k 0).toNat + (w.getD (i + k) 0).toNat) % 65536 : Nat) : Int) (by omega)
   rw [rMul_l2, ite_t (by simp <;> omega)]
   rw [e1, Int.toNat_natCast, Int.toNat_natCast, ea, eb, ew, ← Int.natCast_mul]
   generalize (a.getD i 0).toNat = x at *
   generalize hy : (b.getD k 0).toNat = y at *
   generalize (w.getD (i + k) 0).toNat = f at *
   rw [show (c : Int) + ((x * y : Nat) : Int) = ((c + x * y : Nat) : Int) by omega, show ((c + x * y : Nat) : Int) + (f : Int) = ((c + x * y + f : Nat) : Int) by omega, tmodN, tdivN]
   rw [gd_pos (by omega), gd_pos (by omega), gd_pos (by omega), gd_pos (by omega), gd_pos (okI64 (by omega) (by omega)), gd_pos (okI64 (by omega) (by omega)), gd_pos (okI64 (by omega) (by omega)), gd_pos (by omega), gd_pos (by omega), gd_pos (okI64 (by omega) (by omega)), gd_pos (okI64 (by omega) (by omega)), gd_pos (by decide), gd_pos (by omega), gd_pos (by omega), gd_pos (by decide), gd_pos (okI64 (by omega) (by omega)), gd_pos (okI64 (by omega) (by omega))]
   refine ih (k + 1) fu _ _ (by omega) (by omega) (by rw [List.length_set]; exact hw) (hd.set ⟨by omega, by omega⟩ _) ?_ ?_ (by omega)
   ·intro q hq
    rw [getD_set_ne _ _ (by omega)]; exact hz q hq
   ·rw [Z_take', show i + (k + 1) = (i + k) + 1 by omega, pow6, hy]
    rw [Int.toNat_natCast] at hV
    rw [Nat.pow_add] at *
    have hdm := Nat.mod_add_div (c + x * y + f) 65536
    generalize (c + x * y + f) % 65536 = s at *
    generalize (c + x * y + f) / 65536 = t at *
    generalize 65536 ^ i = p at *
    generalize 65536 ^ k = q at *
    clear hAB ih
    have : p * q * (s + 65536 * t) = p * q * (c + x * y + f) := by rw [hdm]
    grind
theorem rMul_l1_is {n : Nat} (hn : 18446744073709551616 ≤ n) (a b : List Int) (hda : Dz a) (hdb : Dz b) (ha : a.length ≤ 900000) (hb : b.length ≤ 90000) :
  ∀ (m i fu : Nat) (w : List Int), i + m = a.length → m < fu → w.length = a.length + b.length → Dz w → Nzz w (i + b.length) → nZ w = nZ (a.take i) * nZ b →
  rMul_l1 n a b fu w (i : Int) = some (nE (nZ a * nZ b), (nE (nZ a * nZ b)).length) := by
 intro m
 induction m with
 | zero =>
  intro i fu w hi hf hw hd hz hv
  cases fu with
  | zero => omega
  | succ fu =>
   rw [List.take_of_length_le (by omega)] at hv
   rw [rMul_l1, ite_f (by simp <;> omega), trim_is hn hd (by omega), hv]
 | succ m ih =>
  intro i fu w hi hf hw hd hz hv
  cases fu with
  | zero => omega
  | succ fu =>
   rw [rMul_l1, ite_t (by simp <;> omega)]
   obtain ⟨w', h1, hd', h2, h3, h4⟩ := rMul_l2_is n a b hda hdb ha hb i (by omega) (rMul_l1 n a b fu) (nZ w) b.length 0 n w 0 (by omega) (by omega) hw hd hz (by simp [Z_nil]) (by decide)
   have h4' : rMul_l2 n a b (i : Int) (rMul_l1 n a b fu) n w 0 0 = _ := h4
   rw [h4']
   refine ih (i + 1) fu w' (by omega) (by omega) h1 hd' h2 ?_
   rw [h3, hv, Z_take']; grind
theorem rMul_is' {n : Nat} (hn : 18446744073709551616 ≤ n) {a b : List Int} (hda : Dz a) (hdb : Dz b) (ha : a.length ≤ 90000) (hb : b.length ≤ 90000) : rMul n a b = some (nE (nZ a * nZ b), (nE (nZ a * nZ b)).length) := by
 unfold rMul
 rw [gd_pos (okI64 (by omega) (by omega)), gd_pos (by omega), gd_pos (by trivial), gd_pos (by unfold rmB; omega)]
 refine rMul_l1_is hn a b hda hdb (by omega) hb a.length 0 n _ (by omega) (by omega) (by simp <;> omega) (Dz.rep _) ?_ (by simp [Z_rep, Z_nil])
 intro k _
 exact getD_repZ _ _
theorem rMul_is {n : Nat} (hn : 18446744073709551616 ≤ n) {x y : Nat} (hx : (nE x).length ≤ 90000) (hy : (nE y).length ≤ 90000) : rMul n (nE x) (nE y) = some (nE (x * y), (nE (x * y)).length) := by
 have := rMul_is' hn (E_dz x) (E_dz y) hx hy
 rwa [Z_E, Z_E] at this
theorem E_last {y : Nat} (hy : y ≠ 0) : (nE y).length ≠ 0 ∧ ((nE y).getD ((nE y).length - 1) 0).toNat ≠ 0 := by
 have h1 : (nE y).length ≠ 0 := fun h => by
  have := (E_len y 0).1 (by omega)
  simp at this; omega
 refine ⟨h1, fun h => ?_⟩
 have h2 := zpos h1
 rw [h, Z_E] at h2
 have h3 := Z_lt ((E_dz y).take ((nE y).length - 1))
 rw [List.length_take, Nat.min_eq_left (by omega)] at h3
 have := (E_len y ((nE y).length - 1)).2 (by omega)
 omega
theorem tdivNN (a b : Nat) : Int.tdiv (a : Int) (b : Int) = ((a / b : Nat) : Int) := by rw [Int.tdiv_eq_ediv_of_nonneg (by omega)]; rfl
theorem rfit_j1_is (n d : Nat) (x y : Nat) (h1 : d * y ≤ x) (hxy : y ≤ x) : ∃ q : Nat, rfit_j1 n (d : Int) = some (q : Int) ∧ 1 ≤ q ∧ q * y ≤ x := by
 unfold rfit_j1
 by_cases h : d = 0
 ·subst h
  exact ⟨1, by rw [ite_t (by rfl)]; rfl, Nat.le_refl _, by omega⟩
 ·exact ⟨d, by rw [ite_f (by simp <;> omega)], by omega, h1⟩
theorem top_div {p N x d y vl : Nat} (hp : 0 < p) (hy : y < (N + 1) * p) (hd : d * (N + 1) ≤ x / p) : d * y ≤ x := by
 have h1 : d * y ≤ d * ((N + 1) * p) := Nat.mul_le_mul_left d (by omega)
 have h2 := Nat.mul_le_mul_right p hd
 have h3 := Nat.div_mul_le_self x p
 rw [Nat.mul_assoc] at h2
 omega
theorem rfit_is {n : Nat} {x y : Nat} (hy : y ≠ 0) (hl : (nE y).length ≤ 100000) (hxy : y ≤ x) (hx : x < 65536 * y) : ∃ q : Nat, rfit n (nE x) (nE y) = some (q : Int) ∧ 1 ≤ q ∧ q * y ≤ x := by
 obtain ⟨h0, hlast⟩ := E_last hy
 have hyl := (E_len y (nE y).length).1 (Nat.le_refl _)
 unfold rfit
 by_cases h1 : (nE y).length = 1
 ·rw [h1] at hyl
  have ey : (nE y).getD 0 0 = ((y : Nat) : Int) := by rw [E_get]; congr 1; omega
  have r1 : rdigit n (nE x) 1 = some ((nE x).getD 1 0) := rdigit_is n (nE x) 1
  have r0 : rdigit n (nE x) 0 = some ((nE x).getD 0 0) := rdigit_is n (nE x) 0
  rw [ite_t (by simp <;> omega), r1, Option.bind_some, r0, Option.bind_some]
  have e1 : (nE x).getD 1 0 = ((x / 65536 : Nat) : Int) := by rw [E_get]; congr 1; omega
  have e0 : (nE x).getD 0 0 = ((x % 65536 : Nat) : Int) := by rw [E_get]; congr 1; omega
  have ex : ((x / 65536 : Nat) : Int) * 65536 + ((x % 65536 : Nat) : Int) = (x : Int) := by omega
  have hdiv : x / y ≤ x := Nat.div_le_self x y
  have hdm := Nat.div_mul_le_self x y
  rw [e1, e0, ex, ey, tdivNN]
  generalize x / y = q at hdiv hdm ⊢
  rw [gd_pos (okI64 (by omega) (by omega)), gd_pos (okI64 (by omega) (by omega)), gd_pos (by omega), gd_pos (by omega), gd_pos (by omega), gd_pos (okI64 (by omega) (by omega))]
  exact rfit_j1_is n q x y hdm hxy
 ·rw [ite_f (by simp <;> omega)]
  obtain ⟨k, hk⟩ : ∃ k, (nE y).length = k + 2 := ⟨(nE y).length - 2, by omega⟩
  have i1 : (((nE y).length : Nat) : Int) - 1 = ((k + 1 : Nat) : Int) := by omega
  have i2 : (((nE y).length : Nat) : Int) - 2 = ((k : Nat) : Int) := by omega
  rw [i1, i2, rdigit_is, Option.bind_some, rdigit_is, Option.bind_some, rdigit_is, Option.bind_some, Int.toNat_natCast, Int.toNat_natCast, hk]
  rw [hk] at hyl
  have hp := ppos k
  have hp1 : 65536 ^ (k + 1) = 65536 ^ k * 65536 := Nat.pow_succ ..
  have hp2 : 65536 ^ (k + 2) = 65536 ^ k * (65536 * 65536) := by rw [Nat.pow_add]
  have hX : x / 65536 ^ k < 65536 * 65536 * 65536 := by
   rw [Nat.div_lt_iff_lt_mul hp]
   have : 65536 * 65536 * 65536 * 65536 ^ k = 65536 * 65536 ^ (k + 2) := by rw [hp2]; grind
   omega
  have hY : y / 65536 ^ k < 65536 * 65536 := by
   rw [Nat.div_lt_iff_lt_mul hp]
   have : 65536 * 65536 * 65536 ^ k = 65536 ^ (k + 2) := by rw [hp2]; grind
   omega
  have hx2 : x / 65536 ^ (k + 2) % 65536 = x / 65536 ^ k / (65536 * 65536) % 65536 := by rw [hp2, Nat.div_div_eq_div_mul]
  have hx1 : x / 65536 ^ (k + 1) % 65536 = x / 65536 ^ k / 65536 % 65536 := by rw [hp1, Nat.div_div_eq_div_mul]
  have hy1 : y / 65536 ^ (k + 1) % 65536 = y / 65536 ^ k / 65536 % 65536 := by rw [hp1, Nat.div_div_eq_div_mul]
  rw [E_get x, E_get x, E_get x, E_get y, E_get y, hx2, hx1, hy1]
  have hyp : y < (y / 65536 ^ k + 1) * 65536 ^ k := by
   rw [Nat.add_mul, Nat.one_mul]
   have := Nat.mod_add_div y (65536 ^ k)
   have h := Nat.mod_lt y hp
   rw [Nat.mul_comm] at this; omega
  generalize hX' : x / 65536 ^ k = X at *
  generalize hY' : y / 65536 ^ k = Y at *
  have a1 : ((X / (65536 * 65536) % 65536 : Nat) : Int) * 65536 + ((X / 65536 % 65536 : Nat) : Int) = ((X / 65536 : Nat) : Int) := by omega
  have a2 : ((X / 65536 : Nat) : Int) * 65536 + ((X % 65536 : Nat) : Int) = (X : Int) := by omega
  have a3 : ((Y / 65536 % 65536 : Nat) : Int) * 65536 + ((Y % 65536 : Nat) : Int) = (Y : Int) := by omega
  have a4 : (Y : Int) + 1 = ((Y + 1 : Nat) : Int) := by omega
  have hdl : X / (Y + 1) ≤ X := Nat.div_le_self _ _
  have hdm := Nat.div_mul_le_self X (Y + 1)
  rw [a1, a2, a3, a4, tdivNN]
  generalize X / (Y + 1) = q at hdl hdm ⊢
  rw [gd_pos (okI64 (by omega) (by omega)), gd_pos (okI64 (by omega) (by omega)), gd_pos (okI64 (by omega) (by omega)), gd_pos (okI64 (by omega) (by omega)), gd_pos (okI64 (by omega) (by omega)), gd_pos (okI64 (by omega) (by omega)), gd_pos (okI64 (by omega) (by omega)), gd_pos (okI64 (by omega) (by omega)), gd_pos (by omega), gd_pos (by omega), gd_pos (okI64 (by omega) (by omega)), gd_pos (okI64 (by omega) (by omega)), gd_pos (by omega), gd_pos (by omega), gd_pos (okI64 (by omega) (by omega)), gd_pos (okI64 (by omega) (by omega)), gd_pos (by omega)]
  refine rfit_j1_is n q x y (top_div (vl := 0) hp hyp ?_) hxy
  rw [hX']
  exact hdm
theorem E_one {d : Nat} (h : d < 65536) (h0 : d ≠ 0) : nE d = [(d : Int)] := by
 have := E_Z (l := [(d : Int)]) (Dz.one ⟨by omega, by omega⟩) (by simp; omega)
 rwa [show nZ [(d : Int)] = d by rw [Z_cons, Z_nil, Int.toNat_natCast]; omega] at this
theorem rDiv_l2_is {n : Nat} (hn : 18446744073709551616 ≤ n) (a : List Int) (y : Nat) (hy : y ≠ 0) (hyl : (nE y).length ≤ 10000) (ha : a.length ≤ 10000) (i : Nat) (hi : i < a.length) (K : List Int → List Int → Nat → Int → Option (List Int × Nat × List Int × Nat)) (v0 r0 : Nat) (hr0 : r0 < 65536 * y) :
  ∀ (m fu : Nat) (q : List Int) (r : Nat), r < (m + 1) * y → m < fu → m ≤ 65536 → q.length = a.length → Dz q → (q.getD i 0).toNat * y + r = r0 → nZ q * y + 65536 ^ i * r = v0 →
  ∃ (q' : List Int) (r' : Nat), q'.length = a.length ∧ Dz q' ∧ r' < y ∧ nZ q' * y + 65536 ^ i * r' = v0 ∧ (∀ k, k ≠ i → q'.getD k 0 = q.getD k 0) ∧ rDiv_l2 n a (nE y) (i : Int) K fu q (nE r) (nE r).length = K q' (nE r') (nE r').length ((i : Int) - 1) := by
 intro m
 induction m with
 | zero =>
  intro fu q r hr hf hm hq hd h1 h2
  cases fu with
  | zero => omega
  | succ fu =>
   have hry : r < y := by omega
   have hrl := E_mono (Nat.le_of_lt hry)
   refine ⟨q, r, hq, hd, hry, h2, fun _ _ => rfl, ?_⟩
   rw [rDiv_l2, rCmp_is hn (by omega) (by omega)]
   simp only [Option.bind_some]
   rw [cmpN_lt hry, ite_f (by decide), gd_pos (okI64 (by omega) (by omega))]
 | succ m ih =>
  intro fu q r hr hf hm hq hd h1 h2
  cases fu with
  | zero => omega
  | succ fu =>
   have hr65 : r < 65536 * y := by have := Nat.zero_le ((q.getD i 0).toNat * y); omega
   have hrl : (nE r).length ≤ (nE y).length + 1 := by
    rw [E_len, pow6]
    have := (E_len y (nE y).length).1 (Nat.le_refl _)
    omega
   rw [rDiv_l2, rCmp_is hn (by omega) (by omega)]
   simp only [Option.bind_some]
   by_cases hry : r < y
   ·refine ⟨q, r, hq, hd, hry, h2, fun _ _ => rfl, ?_⟩
    rw [cmpN_lt hry, ite_f (by decide), gd_pos (okI64 (by omega) (by omega))]
   ·obtain ⟨d, hd1, hd2, hd3⟩ := rfit_is (n := n) (x := r) hy (by omega) (Nat.le_of_not_lt hry) hr65
    obtain ⟨eq, lq⟩ := hd.nat i
    have hd4 : d < 65536 := by
     refine Nat.lt_of_mul_lt_mul_right (a := y) ?_
     omega
    have hsum : ((q.getD i 0).toNat + d) * y + (r - d * y) = r0 := by rw [Nat.add_mul]; omega
    have hd5 : (q.getD i 0).toNat + d < 65536 := by
     refine Nat.lt_of_mul_lt_mul_right (a := y) ?_
     omega
    have hV := Z_set q i (((q.getD i 0).toNat + d : Nat) : Int) (by omega)
    rw [ite_t (by simp only [decide_eq_true_eq]; refine Int.not_lt.1 fun h' => ?_; rw [cmpN_neg] at h'; omega), hd1]
    simp only [Option.bind_some]
    have hml := E_one hd4 (by omega)
    rw [gd_pos (by omega), gd_pos (by omega), gd_pos (okI64 (by rw [Int.toNat_natCast, eq]; omega) (by rw [Int.toNat_natCast, eq]; omega)), gd_pos (by omega), gd_pos (by omega), ← hml, rMul_is hn (by omega) (by rw [hml]; simp)]
    simp only [Option.bind_some]
    rw [Nat.mul_comm y d, rSub_is hn (by omega) hd3]
    simp only [Option.bind_some]
    rw [Int.toNat_natCast]
    generalize hx : (q.getD i 0).toNat = x at *
    rw [eq, show (x : Int) + (d : Int) = ((x + d : Nat) : Int) by omega]
    obtain ⟨q', r', k1, k2, k3, k4, k5, k6⟩ := ih fu (q.set i ((x + d : Nat) : Int)) (r - d * y) (by
     have : (m + 1 + 1) * y = (m + 1) * y + y := Nat.succ_mul _ _
     have : y ≤ d * y := Nat.le_mul_of_pos_left y hd2
     omega) (by omega) (by omega) (by rw [List.length_set]; exact hq) (hd.set ⟨by omega, by omega⟩ _) (by rw [getD_set_eq _ _ (by omega), Int.toNat_natCast]; exact hsum) (by
     rw [Int.toNat_natCast] at hV
     obtain ⟨r, rfl⟩ : ∃ t, r = t + d * y := ⟨r - d * y, by omega⟩
     rw [Nat.add_sub_cancel, ← h2]
     generalize 65536 ^ i = p at *
     have : nZ (q.set i ((x + d : Nat) : Int)) = nZ q + p * d := by
      rw [Nat.mul_add] at hV; omega
     rw [this]; grind)
    exact ⟨q', r', k1, k2, k3, k4, fun k hk => by rw [k5 k hk, getD_set_ne _ _ (by omega)], k6⟩
theorem rDiv_l1_is {n : Nat} (hn : 18446744073709551616 ≤ n) (a : List Int) (y : Nat) (hda : Dz a) (hy : y ≠ 0) (hyl : (nE y).length ≤ 10000) (ha : a.length ≤ 10000) :
  ∀ (j fu : Nat) (q : List Int) (r : Nat), j < fu → j ≤ a.length → q.length = a.length → Dz q → (∀ k, k < j → q.getD k 0 = 0) → r < y → nZ q * y + 65536 ^ j * r + nZ (a.take j) = nZ a →
  rDiv_l1 n a (nE y) fu q (nE r) (nE r).length ((j : Int) - 1) = some (nE (nZ a / y), (nE (nZ a / y)).length, nE (nZ a % y), (nE (nZ a % y)).length) := by
 intro j
 induction j with
 | zero =>
  intro fu q r hf hj hq hd hz hr he
  cases fu with
  | zero => omega
  | succ fu =>
   simp only [Nat.pow_zero, Nat.one_mul, List.take_zero, Z_nil, Nat.add_zero] at he
   obtain ⟨hq1, hq2⟩ := qr_of (W := nZ a) (V := y) (q := nZ q) (r := r) (by omega) hr
   obtain ⟨t1, t2⟩ := rtrim_is hn hd (by omega)
   rw [rDiv_l1, ite_f (by simp), t1, Option.bind_some, t2, hq1, ← hq2]
 | succ j ih =>
  intro fu q r hf hj hq hd hz hr he
  cases fu with
  | zero => omega
  | succ fu =>
   have hrl := E_mono (Nat.le_of_lt hr)
   obtain ⟨ea, la⟩ := hda.nat j
   have hZ : nZ ([a.getD j 0] ++ nE r) = (a.getD j 0).toNat + 65536 * r := by
    rw [Z_app, Z_cons, Z_nil, Z_E]; simp
   have hdz : Dz ([a.getD j 0] ++ nE r) := (Dz.one (hda.get j)).app (E_dz r)
   obtain ⟨t1, t2⟩ := rtrim_is hn hdz (by simp; omega)
   rw [hZ] at t1 t2
   rw [show ((j + 1 : Nat) : Int) - 1 = (j : Int) by omega, rDiv_l1, ite_t (by simp), gd_pos (by omega), gd_pos (by omega), gd_pos (by unfold rmB; omega), Int.toNat_natCast, t1, Option.bind_some, t2]
   have hr0 : (a.getD j 0).toNat + 65536 * r < 65536 * y := by omega
   obtain ⟨q', r', k1, k2, k3, k4, k5, k6⟩ := rDiv_l2_is hn a y hy hyl ha j (by omega) (rDiv_l1 n a (nE y) fu) (nZ q * y + 65536 ^ j * ((a.getD j 0).toNat + 65536 * r)) _ hr0 65535 n q ((a.getD j 0).toNat + 65536 * r) (by omega) (by omega) (by omega) hq hd (by rw [hz j (by omega)]; simp) rfl
   rw [k6]
   refine ih fu q' r' (by omega) (by omega) k1 k2 (fun k hk => by rw [k5 k (by omega)]; exact hz k (by omega)) k3 ?_
   rw [k4, ← he, Z_take', pow6]; grind
theorem rDiv_is {n : Nat} (hn : 18446744073709551616 ≤ n) {x y : Nat} (hx : (nE x).length ≤ 10000) (hyl : (nE y).length ≤ 10000) (hy : y ≠ 0) :
  rDiv n (nE x) (nE y) = some (nE (x / y), (nE (x / y)).length, nE (x % y), (nE (x % y)).length) := by
 unfold rDiv
 rw [gd_pos (by omega), gd_pos (by trivial), gd_pos (by unfold rmB; omega), gd_pos (okI64 (by omega) (by omega))]
 have := rDiv_l1_is hn (nE x) y (E_dz x) hy hyl hx (nE x).length n (List.replicate (nE x).length 0) 0 (by omega) (Nat.le_refl _) (by simp) (Dz.rep _) (fun k _ => getD_repZ _ _) (by omega) (by simp [Z_rep])
 rw [E_zero, Z_E] at this
 exact this
theorem rRest_is {n : Nat} (hn : 18446744073709551616 ≤ n) {x y : Nat} (hx : (nE x).length ≤ 10000) (hyl : (nE y).length ≤ 10000) (hy : y ≠ 0) :
  rRest n (nE x) (nE y) = some (nE (x % y), (nE (x % y)).length) := by
 unfold rRest
 rw [rDiv_is hn hx hyl hy]; rfl
theorem E_mul_len {x y k l : Nat} (hx : (nE x).length ≤ k) (hy : (nE y).length ≤ l) : (nE (x * y)).length ≤ k + l := by
 rw [E_len, Nat.pow_add]
 exact Nat.mul_lt_mul'' ((E_len x k).1 hx) ((E_len y l).1 hy)
theorem band1 (x : Nat) (h : x < 18446744073709551616) : bitI .and .i64 (x : Int) 1 = ((x % 2 : Nat) : Int) := by
 have e : (BitVec.ofInt 64 (x : Int) &&& BitVec.ofInt 64 1).toNat = x % 2 := by
  rw [BitVec.toNat_and]
  have e1 : (BitVec.ofInt 64 (x : Int)).toNat = x := by
   rw [BitVec.toNat_ofInt]; omega
  rw [e1]
  exact Nat.and_one_is_mod _
 show IntKind.i64.wrap (((BitVec.ofInt 64 (x : Int) &&& BitVec.ofInt 64 1).toNat : Nat) : Int) = _
 rw [e]
 exact okI64 (by omega) (by omega)
theorem bit_mod16 (x a r : Nat) (h : r < 16) : x / 2 ^ a % 65536 / 2 ^ r % 2 = x / 2 ^ (a + r) % 2 := by
 have e : (65536 : Nat) = 2 ^ r * (2 * 2 ^ (15 - r)) := by rw [show 2 * 2 ^ (15 - r) = 2 ^ (16 - r) by rw [Nat.mul_comm, ← Nat.pow_succ]; congr 1; omega, ← Nat.pow_add, show r + (16 - r) = 16 by omega]
 rw [e, Nat.mod_mul_right_div_self, Nat.div_div_eq_div_mul, ← Nat.pow_add, Nat.mod_mul_right_mod]
theorem rExp_l1_is {n : Nat} (hn : 18446744073709551616 ≤ n) (x e m : Nat) (lx : Nat) (hx : x < m) (he : (nE e).length ≤ 1000) (hm : (nE m).length ≤ 1000) :
  ∀ (j fu : Nat) (l : Nat), j < fu → j ≤ 16 * (nE e).length → l = (nE (x ^ (e / 2 ^ j) % m)).length →
  rExp_l1 n (nE e) (nE m) (nE x, lx) fu (nE (x ^ (e / 2 ^ j) % m)) l ((j : Int) - 1) = some (nE (x ^ e % m), (nE (x ^ e % m)).length) := by
 intro j
 induction j with
 | zero =>
  intro fu l hf hj hl
  cases fu with
  | zero => omega
  | succ fu => rw [rExp_l1, ite_f (by simp), hl]; simp
 | succ j ih =>
  intro fu l hf hj hl
  cases fu with
  | zero => omega
  | succ fu =>
   have hml := fun y => E_mono (Nat.le_of_lt (Nat.mod_lt y (show m > 0 by omega)))
   have hxl := E_mono (Nat.le_of_lt hx)
   have t1 : Int.tdiv (j : Int) 16 = ((j / 16 : Nat) : Int) := by rw [Int.tdiv_eq_ediv_of_nonneg (by omega)]; omega
   have t2 : Int.tmod (j : Int) 16 = ((j % 16 : Nat) : Int) := by rw [Int.tmod_eq_emod_of_nonneg (by omega)]; omega
   obtain ⟨p1, p2⟩ := pow_step x m (e / 2 ^ (j + 1)) 0
   have h1 := hml (x ^ (e / 2 ^ (j + 1)))
   have h2 := E_mul_len h1 h1
   have h3 := hml (x ^ (2 * (e / 2 ^ (j + 1))))
   have h4 := E_mul_len h3 hxl
   rw [show ((j + 1 : Nat) : Int) - 1 = (j : Int) by omega, rExp_l1, ite_t (by simp), rMul_is hn (by omega) (by omega), Option.bind_some, rRest_is hn (by omega) (by omega) (by omega), Option.bind_some, p2]
   rw [t1, t2, gd_pos (by decide), gd_pos (okI64 (by omega) (by omega)), gd_pos (by omega), gd_pos (by omega), gd_pos (by decide), gd_pos (by omega), gd_pos (by show _ ≤ ((64 : Nat) : Int); omega), Int.toNat_natCast, Int.toNat_natCast, E_get]
   have hb : e / 65536 ^ (j / 16) % 65536 / 2 ^ (j % 16) % 2 = e / 2 ^ j % 2 := by
    rw [show (65536 : Nat) ^ (j / 16) = 2 ^ (16 * (j / 16)) by rw [Nat.pow_mul], bit_mod16 _ _ _ (by omega), show 16 * (j / 16) + j % 16 = j by omega]
   have hb2 : ((e / 65536 ^ (j / 16) % 65536 : Nat) : Int) / 2 ^ (j % 16) = ((e / 65536 ^ (j / 16) % 65536 / 2 ^ (j % 16) : Nat) : Int) := by
    rw [Int.natCast_ediv]; congr 1
   have hb3 : e / 65536 ^ (j / 16) % 65536 / 2 ^ (j % 16) < 18446744073709551616 := by
    have := Nat.div_le_self (e / 65536 ^ (j / 16) % 65536) (2 ^ (j % 16))
    omega
   rw [hb2, band1 _ hb3, hb]
   have hh := half e j
   by_cases hbit : e / 2 ^ j % 2 = 1
   ·rw [ite_t (by rw [hbit]; rfl), rMul_is hn (by omega) (by omega), Option.bind_some, rRest_is hn (by omega) (by omega) (by omega), Option.bind_some]
    unfold rExp_j1
    rw [gd_pos (okI64 (by omega) (by omega)), ← p2, p1, show 2 * (e / 2 ^ (j + 1)) + 1 = e / 2 ^ j by omega]
    exact ih fu _ (by omega) (by omega) rfl
   ·rw [ite_f (by simp only [beq_eq_false_iff_ne]; omega)]
    unfold rExp_j1
    rw [gd_pos (okI64 (by omega) (by omega)), show 2 * (e / 2 ^ (j + 1)) = e / 2 ^ j by omega]
    exact ih fu _ (by omega) (by omega) rfl
theorem rExp_is {n : Nat} (hn : 18446744073709551616 ≤ n) {a e m : Nat} (ha : (nE a).length ≤ 1000) (he : (nE e).length ≤ 1000) (hm : (nE m).length ≤ 1000) (h0 : m ≠ 0) :
  rExp n (nE a) (nE e) (nE m) = some (nE (a ^ e % m), (nE (a ^ e % m)).length) := by
 unfold rExp
 have hd := rRest_is hn (x := 1) (y := m) (by rw [E_one (by decide) (by decide)]; decide) (by omega) h0
 rw [E_one (d := 1) (by decide) (by decide)] at hd
 have hd' : rRest n [1] (nE m) = _ := hd
 rw [hd', Option.bind_some, rRest_is hn (by omega) (by omega) h0, Option.bind_some, gd_pos (okI64 (by omega) (by omega)), gd_pos (okI64 (by omega) (by omega))]
 have hz : e / 2 ^ (16 * (nE e).length) = 0 := by
  rw [Nat.div_eq_of_lt]
  have := (E_len e (nE e).length).1 (Nat.le_refl _)
  rw [Nat.pow_mul]; exact this
 have := rExp_l1_is hn (a % m) e m (nE (a % m)).length (Nat.mod_lt _ (by omega)) he hm (16 * (nE e).length) n (nE (1 % m)).length (by omega) (Nat.le_refl _) (by rw [hz, Nat.pow_zero])
 rw [hz, Nat.pow_zero, Int.natCast_mul, ← Nat.pow_mod] at this
 exact this
end Go.Sx
end
section
namespace Go.Sx
open Go Go.RowKit Go.Ch Go.Proofs.YthichmclbiggmaaDoor
def nB (l : List UInt8) : Nat := vl 256 UInt8.toNat l.reverse
def dB (v : Nat) : List UInt8 := (dg 256 UInt8.ofNat v).reverse
theorem b_lt (x : UInt8) : x.toNat < 256 := x.toNat_lt
theorem b_of (x : Nat) (h : x < 256) : (UInt8.ofNat x).toNat = x := by simp; omega
theorem nB_dB (v : Nat) : nB (dB v) = v := by unfold nB dB; rw [List.reverse_reverse]; exact vl_dg _ _ _ (by decide) b_of v
theorem dB_len (v k : Nat) : (dB v).length ≤ k ↔ v < 256 ^ k := by unfold dB; rw [List.length_reverse]; exact dg_len _ _ (by decide) v k
theorem nB_lt (l : List UInt8) : nB l < 256 ^ l.length := by
 have := vl_lt 256 UInt8.toNat l.reverse fun x _ => b_lt x
 rwa [List.length_reverse] at this
theorem nB_nil : nB [] = 0 := rfl
theorem nB_cons (x : UInt8) (l : List UInt8) : nB (x :: l) = nB l + 256 ^ l.length * x.toNat := by
 unfold nB
 rw [List.reverse_cons, vl_app, List.length_reverse, vl_cons, vl_nil]; simp
theorem nB_inj : ∀ {a b : List UInt8}, a.length = b.length → nB a = nB b → a = b
 | [], [], _, _ => rfl
 | x :: a, y :: b, hl, h => by
  have hl' : a.length = b.length := by simpa using hl
  rw [nB_cons, nB_cons, hl'] at h
  have h1 := nB_lt a
  have h2 := nB_lt b
  rw [hl'] at h1
  have hp : 0 < 256 ^ b.length := Nat.pow_pos (by decide)
  have e1 : (nB a + 256 ^ b.length * x.toNat) % 256 ^ b.length = nB a := by rw [Nat.add_mul_mod_self_left, Nat.mod_eq_of_lt h1]
  have e2 : (nB b + 256 ^ b.length * y.toNat) % 256 ^ b.length = nB b := by rw [Nat.add_mul_mod_self_left, Nat.mod_eq_of_lt h2]
  have e3 : nB a = nB b := by rw [← e1, h, e2]
  have e4 : x.toNat = y.toNat := by
   rw [e3] at h
   exact Nat.eq_of_mul_eq_mul_left hp (by omega)
  rw [nB_inj hl' e3, UInt8.toNat_inj.1 e4]
 | [], _ :: _, hl, _ => by simp at hl
 | _ :: _, [], hl, _ => by simp at hl
theorem nB_set : ∀ (l : List UInt8) (i : Nat) (x : UInt8), i < l.length → nB (l.set (l.length - 1 - i) x) + 256 ^ i * (l.getD (l.length - 1 - i) 0).toNat = nB l + 256 ^ i * x.toNat
 | [], _, _, h => by simp at h
 | y :: t, i, x, h => by
  by_cases hi : i = t.length
  ·subst hi
   have e : (y :: t).length - 1 - t.length = 0 := by simp
   rw [e, List.set_cons_zero, nB_cons, nB_cons]; simp; omega
  ·have hi' : i < t.length := by simp at h; omega
   have e : (y :: t).length - 1 - i = (t.length - 1 - i) + 1 := by simp; omega
   have ih := nB_set t i x hi'
   rw [e, List.set_cons_succ, nB_cons, nB_cons, List.getD_cons_succ, List.length_set]; omega
theorem nB_rep (n : Nat) : nB (List.replicate n 0) = 0 := by
 unfold nB; rw [List.reverse_replicate]; exact vl_rep (z := (0 : UInt8)) 256 UInt8.toNat rfl n
theorem mod_step (v i : Nat) : v % 256 ^ (i + 1) = v % 256 ^ i + 256 ^ i * (v / 256 ^ i % 256) := Nat.mod_pow_succ
structure Wr (l : List UInt8) (n i v : Nat) : Prop where
 len : l.length = n
 z : ∀ k, k + i < n → l.getD k 0 = 0
 val : nB l = v % 256 ^ i
theorem Wr.start (n v : Nat) : Wr (List.replicate n 0) n 0 v := ⟨by simp, fun k _ => by rw [List.getD_eq_getElem?_getD, List.getElem?_replicate]; split <;> rfl, by rw [nB_rep]; simp [Nat.mod_one]⟩
theorem Wr.step {l : List UInt8} {n i v : Nat} (h : Wr l n i v) (hi : i < n) {x : UInt8} (hx : x.toNat = v / 256 ^ i % 256) : Wr (l.set (n - 1 - i) x) n (i + 1) v := by
 have hl := h.len
 have hs := nB_set l i x (by omega)
 rw [hl, h.z (n - 1 - i) (by omega), h.val] at hs
 refine ⟨by rw [List.length_set]; exact hl, fun k hk => by rw [getD_set_ne _ _ (by omega)]; exact h.z k (by omega), ?_⟩
 rw [mod_step, ← hx]
 simpa using hs
theorem limb_byte (v i : Nat) : v / 4294967296 ^ (i / 4) % 4294967296 / 2 ^ (8 * (i % 4)) % 256 = v / 256 ^ i % 256 := by
 have e1 : (4294967296 : Nat) ^ (i / 4) = 256 ^ (4 * (i / 4)) := by rw [Nat.pow_mul]
 have e2 : (2 : Nat) ^ (8 * (i % 4)) = 256 ^ (i % 4) := by rw [Nat.pow_mul]
 have e3 : (4294967296 : Nat) = 256 ^ (i % 4) * (256 * 256 ^ (3 - i % 4)) := by
  rw [show 256 * 256 ^ (3 - i % 4) = 256 ^ (4 - i % 4) by rw [Nat.mul_comm, ← Nat.pow_succ]; congr 1; omega, ← Nat.pow_add, show i % 4 + (4 - i % 4) = 4 by omega]
 rw [e1, e2]
 conv => lhs; rw [e3]
 rw [Nat.mod_mul_right_div_self, Nat.div_div_eq_div_mul, ← Nat.pow_add, Nat.mod_mul_right_mod, show 4 * (i / 4) + i % 4 = i by omega]
theorem dB_of {r : List UInt8} (h : r = [] ∨ (r.getD 0 0).toNat ≠ 0) : dB (nB r) = r := by
 refine nB_inj ?_ (nB_dB _)
 have h1 := nB_lt r
 have h2 := (dB_len (nB r) r.length).2 h1
 refine Nat.le_antisymm h2 ?_
 cases r with
 | nil => simp
 | cons x t =>
  simp only [List.getD_cons_zero] at h
  have hx : x.toNat ≠ 0 := h.resolve_left (by simp)
  refine Nat.le_of_not_lt fun hlt => ?_
  have h3 := (dB_len (nB (x :: t)) t.length).1 (by simp at hlt; omega)
  rw [nB_cons] at h3
  have := Nat.le_mul_of_pos_right (256 ^ t.length) (show 0 < x.toNat by omega)
  omega
theorem rSize_is (n : Nat) {v : Nat} (hl : (nE v).length ≤ 100000) : rSize n (nE v) = some (((dB v).length : Nat) : Int) := by
 unfold rSize rSize_j1
 rw [gd_pos (okI64 (by omega) (by omega))]
 by_cases h0 : v = 0
 ·subst h0
  rw [E_zero, ite_f (by decide)]
  simp [dB, dg_zero]
 ·obtain ⟨h1, h2⟩ := E_last h0
  have hz := zpos h1
  rw [Z_E] at hz
  have hlt := Z_lt ((E_dz v).take ((nE v).length - 1))
  rw [List.length_take, Nat.min_eq_left (by omega)] at hlt
  obtain ⟨g1, g2⟩ := (E_dz v).get ((nE v).length - 1)
  have e1 : (((nE v).length : Nat) : Int) - 1 = (((nE v).length - 1 : Nat) : Int) := by omega
  rw [ite_t (by simp <;> omega), e1, gd_pos (okI64 (by omega) (by omega)), gd_pos (by omega), gd_pos (by omega), Int.toNat_natCast]
  obtain ⟨k, hk⟩ : ∃ k, (nE v).length = k + 1 := ⟨(nE v).length - 1, by omega⟩
  have hk' : (nE v).length - 1 = k := by omega
  rw [hk'] at hz hlt h2 g1 g2
  rw [hk, Nat.add_sub_cancel]
  have hp : (65536 : Nat) ^ k = 256 ^ (2 * k) := by rw [Nat.pow_mul]
  rw [hp] at hz hlt
  generalize hx : (nE v).getD k 0 = x at *
  have hpp : 0 < 256 ^ (2 * k) := Nat.pow_pos (by decide)
  have q1 : 256 ^ (2 * k + 1) = 256 ^ (2 * k) * 256 := Nat.pow_succ ..
  have q2 : 256 ^ (2 * k + 2) = 256 ^ (2 * k) * 65536 := by rw [Nat.pow_add]
  by_cases h256 : x < 256
  ·rw [ite_t (by simpa using h256), gd_pos (okI64 (by omega) (by omega))]
   have a1 : (dB v).length ≤ 2 * k + 1 := by
    rw [dB_len, q1, hz]
    have := Nat.mul_le_mul_left (256 ^ (2 * k)) (show x.toNat + 1 ≤ 256 by omega)
    rw [Nat.mul_add] at this; omega
   have a2 : ¬ (dB v).length ≤ 2 * k := by
    rw [dB_len, hz]
    have := Nat.le_mul_of_pos_right (256 ^ (2 * k)) (show 0 < x.toNat by omega)
    omega
   congr 1; omega
  ·rw [ite_f (by simpa using h256)]
   have a1 : (dB v).length ≤ 2 * k + 2 := by
    rw [dB_len, q2, hz]
    have := Nat.mul_le_mul_left (256 ^ (2 * k)) (show x.toNat + 1 ≤ 65536 by omega)
    rw [Nat.mul_add] at this; omega
   have a2 : ¬ (dB v).length ≤ 2 * k + 1 := by
    rw [dB_len, hz, q1]
    have := Nat.mul_le_mul_left (256 ^ (2 * k)) (show 256 ≤ x.toNat by omega)
    omega
   congr 1; omega
theorem digit_byte (v i : Nat) : (if i % 2 = 1 then v / 65536 ^ (i / 2) % 65536 / 256 else v / 65536 ^ (i / 2) % 65536) % 256 = v / 256 ^ i % 256 := by
 have e1 : (65536 : Nat) ^ (i / 2) = 256 ^ (2 * (i / 2)) := by rw [Nat.pow_mul]
 rw [e1]
 by_cases h : i % 2 = 1
 ·rw [if_pos h]
  have e2 : (256 : Nat) ^ i = 256 ^ (2 * (i / 2)) * 256 := by rw [← Nat.pow_succ]; congr 1; omega
  rw [e2, ← Nat.div_div_eq_div_mul]; omega
 ·rw [if_neg h]
  have e2 : (256 : Nat) ^ i = 256 ^ (2 * (i / 2)) := by congr 1; omega
  rw [e2]; omega
theorem nB_snoc (l : List UInt8) (x : UInt8) : nB (l ++ [x]) = nB l * 256 + x.toNat := by
 unfold nB; rw [List.reverse_append, List.reverse_singleton, List.singleton_append, vl_cons]; omega
theorem V_inj : ∀ {a b : List UInt32}, a.length = b.length → nV a = nV b → a = b
 | [], [], _, _ => rfl
 | x :: a, y :: b, hl, h => by
  have h1 := u32_lt x
  have h2 := u32_lt y
  rw [V_cons, V_cons] at h
  rw [V_inj (a := a) (b := b) (by simpa using hl) (by omega), UInt32.toNat_inj.1 (show x.toNat = y.toNat by omega)]
 | [], _ :: _, hl, _ => by simp at hl
 | _ :: _, [], hl, _ => by simp at hl
theorem limb_get (w : List UInt32) (k : Nat) (h : k < w.length) : nV w / 4294967296 ^ k % 4294967296 = (w.getD k 0).toNat := by
 have h1 := V_split w k
 have h2 := V_drop w k h
 have h3 := V_lt (w.take k)
 rw [List.length_take, Nat.min_eq_left (by omega)] at h3
 have h4 := u32_lt (w.getD k 0)
 have hp : 0 < 4294967296 ^ k := Nat.pow_pos (by decide)
 rw [h1, Nat.add_mul_div_left _ _ hp, Nat.div_eq_of_lt h3, h2]; omega
theorem or_byte (o : UInt32) (x : UInt8) (s : Nat) (hs : s < 4) (ho : o.toNat % 256 ^ (s + 1) = 0) : (o ||| shl32 x.toUInt32 ((8 * s : Nat) : Int)).toNat = o.toNat + 256 ^ s * x.toNat := by
 have hx := b_lt x
 have e0 : (2 : Nat) ^ (8 * s) = 256 ^ s := by rw [Nat.pow_mul]
 have hle : 256 ^ s ≤ 16777216 := Nat.le_trans (Nat.pow_le_pow_right (by decide) (show s ≤ 3 by omega)) (by decide)
 have hxs : x.toNat * 256 ^ s < 256 ^ (s + 1) := by
  rw [Nat.pow_succ, Nat.mul_comm]
  exact Nat.mul_lt_mul_of_pos_left hx (Nat.pow_pos (by decide))
 have hsm : x.toNat * 256 ^ s ≤ 255 * 16777216 := Nat.mul_le_mul (by omega) hle
 have e1 : (shl32 x.toUInt32 ((8 * s : Nat) : Int)).toNat = x.toNat * 256 ^ s := by
  unfold shl32
  rw [if_pos (by omega), Int.toNat_natCast, UInt32.toNat_shiftLeft, UInt8.toNat_toUInt32]
  have : (UInt32.ofNat (8 * s)).toNat % 32 = 8 * s := by simp; omega
  rw [this, Nat.shiftLeft_eq, e0]; omega
 obtain ⟨q, hq⟩ := Nat.dvd_of_mod_eq_zero ho
 have e2 : (256 : Nat) ^ (s + 1) = 2 ^ (8 * (s + 1)) := by rw [Nat.pow_mul]
 have h3 := Nat.shiftLeft_add_eq_or_of_lt (i := 8 * (s + 1)) (b := x.toNat * 256 ^ s) (by rw [← e2]; exact hxs) q
 rw [Nat.shiftLeft_eq, ← e2] at h3
 rw [UInt32.toNat_or, e1, hq, Nat.mul_comm _ q, ← h3, Nat.mul_comm x.toNat]
theorem pRead_l1_is (n : Nat) (b : List UInt8) (hb : b.length ≤ 256) : ∀ (m i fu : Nat) (w : List UInt32), i + m = b.length → m < fu → w.length = (b.length + 3) / 4 → nV w = nB (b.take i) * 256 ^ (b.length - i) →
  ∃ r, pRead_l1 n b b.length fu w (i : Int) = some (r, (b.length + 3) / 4, none) ∧ r.length = (b.length + 3) / 4 ∧ nV r = nB b := by
 have t0 : Int.tdiv (((b.length : Nat) : Int) + 3) 4 = (((b.length + 3) / 4 : Nat) : Int) := by rw [Int.tdiv_eq_ediv_of_nonneg (by omega)]; omega
 intro m
 induction m with
 | zero =>
  intro i fu w hi hf hw hv
  cases fu with
  | zero => omega
  | succ fu =>
   refine ⟨w, by rw [pRead_l1, ite_f (by simp <;> omega), t0, Int.toNat_natCast], hw, ?_⟩
   rw [hv, List.take_of_length_le (by omega), show b.length - i = 0 by omega]; simp
 | succ m ih =>
  intro i fu w hi hf hw hv
  cases fu with
  | zero => omega
  | succ fu =>
   obtain ⟨at', hat⟩ : ∃ k, k = b.length - 1 - i := ⟨_, rfl⟩
   have e1 : (((b.length : Nat) : Int) - 1) - (i : Int) = (at' : Int) := by omega
   have t1 : Int.tdiv (at' : Int) 4 = ((at' / 4 : Nat) : Int) := by rw [Int.tdiv_eq_ediv_of_nonneg (by omega)]; omega
   have t2 : 8 * Int.tmod (at' : Int) 4 = ((8 * (at' % 4) : Nat) : Int) := by rw [Int.tmod_eq_emod_of_nonneg (by omega)]; omega
   rw [pRead_l1, ite_t (by simp <;> omega), e1, t0, t1, t2, Int.toNat_natCast, Int.toNat_natCast, Int.toNat_natCast]
   rw [gd_pos (by omega), gd_pos (by omega), gd_pos (okI64 (by omega) (by omega)), gd_pos (okI64 (by omega) (by omega)), gd_pos (by decide), gd_pos (okI64 (by omega) (by omega)), gd_pos (by omega), gd_pos (by omega), gd_pos (by decide), gd_pos (okI64 (by omega) (by omega)), gd_pos (by omega), gd_pos (by omega), gd_pos (by omega), gd_pos (okI64 (by omega) (by omega))]
   have hk : at' / 4 < w.length := by omega
   have hpw : (4294967296 : Nat) ^ (at' / 4) = 256 ^ (4 * (at' / 4)) := by rw [Nat.pow_mul]
   have hg := limb_get w (at' / 4) hk
   have hz : (w.getD (at' / 4) 0).toNat % 256 ^ (at' % 4 + 1) = 0 := by
    rw [← hg, hv, show b.length - i = 4 * (at' / 4) + (at' % 4 + 1) by omega, hpw, Nat.pow_add, Nat.mul_comm (256 ^ (4 * (at' / 4))), ← Nat.mul_assoc, Nat.mul_div_cancel _ (Nat.pow_pos (by decide))]
    have e3 : (4294967296 : Nat) = 256 ^ (at' % 4 + 1) * 256 ^ (3 - at' % 4) := by rw [← Nat.pow_add, show at' % 4 + 1 + (3 - at' % 4) = 4 by omega]
    rw [e3, Nat.mod_mul_right_mod]; exact Nat.mul_mod_left _ _
   have ho := or_byte (w.getD (at' / 4) 0) (b.getD i 0) (at' % 4) (by omega) hz
   have hV := V_set w (at' / 4) (w.getD (at' / 4) 0 ||| shl32 (b.getD i 0).toUInt32 ((8 * (at' % 4) : Nat) : Int)) hk
   generalize w.getD (at' / 4) 0 ||| shl32 (b.getD i 0).toUInt32 ((8 * (at' % 4) : Nat) : Int) = o at *
   refine ih (i + 1) fu _ (by omega) (by omega) (by rw [List.length_set]; exact hw) ?_
   have e4 : b.take (i + 1) = b.take i ++ [b.getD i 0] := by
    rw [List.take_succ_eq_append_getElem (by omega), List.getD_eq_getElem?_getD, List.getElem?_eq_getElem (by omega)]; rfl
   have e5 : 256 ^ (b.length - i) = 256 * 256 ^ at' := by rw [show b.length - i = at' + 1 by omega, Nat.pow_succ, Nat.mul_comm]
   have e6 : (256 : Nat) ^ at' = 4294967296 ^ (at' / 4) * 256 ^ (at' % 4) := by rw [hpw, ← Nat.pow_add]; congr 1; omega
   rw [e4, nB_snoc, show b.length - (i + 1) = at' by omega]
   rw [e5] at hv
   have : nV (w.set (at' / 4) o) = nV w + 256 ^ at' * (b.getD i 0).toNat := by
    rw [ho, Nat.mul_add, ← Nat.mul_assoc, ← e6] at hV
    omega
   rw [this, hv]; grind
theorem D_len_dB (v : Nat) : (nD v).length = ((dB v).length + 3) / 4 := by
 have h : ∀ k, (nD v).length ≤ k ↔ (dB v).length ≤ 4 * k := fun k => by rw [D_len, dB_len, Nat.pow_mul]
 have h2 := (h (((dB v).length + 3) / 4)).2 (by omega)
 have h3 := (h (nD v).length).1 (Nat.le_refl _)
 omega
theorem pRead_l2_is {n : Nat} (hn : 18446744073709551616 ≤ n) (v : Nat) : ∀ (m fu : Nat) (l : List UInt8), l.length = m → m < fu → l.length ≤ 100000 → nB l = v →
  pRead_l2 n fu l l.length = some (if 256 < (dB v).length then ([], 0, some 4) else (nD v, (nD v).length, none)) := by
 have fin : ∀ (l : List UInt8), l.length ≤ 100000 → nB l = v → (l = [] ∨ (l.getD 0 0).toNat ≠ 0) → pRead_j1 n l l.length = some (if 256 < (dB v).length then ([], 0, some 4) else (nD v, (nD v).length, none)) := by
  intro l hl hv h0
  have hd := dB_of h0
  rw [hv] at hd
  unfold pRead_j1
  by_cases h256 : 256 < l.length
  ·rw [ite_t (by simp; omega), hd, if_pos h256]
  ·have t0 : Int.tdiv (((l.length : Nat) : Int) + 3) 4 = (((l.length + 3) / 4 : Nat) : Int) := by rw [Int.tdiv_eq_ediv_of_nonneg (by omega)]; omega
   rw [ite_f (by simp; omega), hd, if_neg h256, t0, Int.toNat_natCast, gd_pos (okI64 (by omega) (by omega)), gd_pos (by decide), gd_pos (okI64 (by omega) (by omega)), gd_pos (by omega), gd_pos (by trivial), gd_pos (by unfold rmB; omega)]
   obtain ⟨r, h1, h2, h3⟩ := pRead_l1_is n l (by omega) l.length 0 n (List.replicate ((l.length + 3) / 4) 0) (by omega) (by omega) (by simp) (by rw [V_rep]; simp [nB_nil])
   have hlen : (nD v).length = (l.length + 3) / 4 := by rw [D_len_dB, hd]
   have hr : r = nD v := V_inj (by rw [h2, hlen]) (by rw [h3, V_D, hv])
   rw [hr] at h1
   rw [hlen]
   exact h1
 intro m
 induction m with
 | zero =>
  intro fu l hl hf h8 hv
  cases fu with
  | zero => omega
  | succ fu =>
   obtain rfl := List.eq_nil_of_length_eq_zero hl
   rw [pRead_l2, ite_f (by simp)]
   exact fin [] h8 hv (.inl rfl)
 | succ m ih =>
  intro fu l hl hf h8 hv
  cases fu with
  | zero => omega
  | succ fu =>
   match l, hl with
   | x :: l, hl =>
    rw [pRead_l2, ite_t (by simp <;> omega), gd_pos (by omega), gd_pos (by simp <;> omega)]
    simp only [List.getD_cons_zero]
    by_cases hx : x = 0
    ·rw [ite_t (by rw [hx]; rfl), gd_pos (by omega), gd_pos (by simp; omega)]
     have e : ((x :: l).drop 1).take ((x :: l).length - 1) = l := by simp
     rw [e, show (x :: l).length - 1 = l.length by simp]
     exact ih fu l (by simpa using hl) (by omega) (by simp at h8; omega) (by rw [← hv, nB_cons, hx]; simp)
    ·rw [ite_f (by simp only [beq_eq_false_iff_ne]; exact hx)]
     exact fin (x :: l) h8 hv (.inr (by simp only [List.getD_cons_zero]; exact fun h => hx (UInt8.toNat_inj.1 h)))
theorem pRead_is {n : Nat} (hn : 18446744073709551616 ≤ n) {l : List UInt8} (hl : l.length ≤ 100000) : pRead n l = some (if 256 < (dB (nB l)).length then ([], 0, some 4) else (nD (nB l), (nD (nB l)).length, none)) :=
 pRead_l2_is hn (nB l) l.length n l rfl (by omega) hl rfl
theorem rBytes_l1_is {n : Nat} (hn : 18446744073709551616 ≤ n) (a : List UInt8) (ha : a.length ≤ 100000) : ∀ (m c fu : Nat) (z : List Int), a.length ≤ 2 * c + m → 2 * c ≤ a.length + 1 → m < fu → z.length = c → Dz z → nZ z = nB (a.drop (a.length - 2 * c)) →
  rBytes_l1 n a fu z ((a.length : Int) - 1 - 2 * (c : Int)) = some (nE (nB a), (nE (nB a)).length) := by
 intro m
 induction m using Nat.strongRecOn with
 | _ m ih =>
  intro c fu z h1 h2 hf hz hd hv
  cases fu with
  | zero => omega
  | succ fu =>
   by_cases hlt : 2 * c < a.length
   ·obtain ⟨i, hi⟩ : ∃ k, k = a.length - 1 - 2 * c := ⟨_, rfl⟩
    have e1 : (a.length : Int) - 1 - 2 * (c : Int) = (i : Int) := by omega
    have hx := b_lt (a.getD i 0)
    have d1 : a.drop i = a.getD i 0 :: a.drop (i + 1) := by
     rw [List.drop_eq_getElem_cons (show i < a.length by omega), List.getD_eq_getElem?_getD, List.getElem?_eq_getElem (show i < a.length by omega)]; rfl
    rw [e1, rBytes_l1, ite_t (by simp), gd_pos (by omega), gd_pos (by omega)]
    have hpw : (65536 : Nat) ^ c = 256 ^ (2 * c) := by rw [Nat.pow_mul]
    have hdl : (a.drop (i + 1)).length = 2 * c := by simp; omega
    have hv' : nZ z = nB (a.drop (i + 1)) := by rw [hv]; congr 2; omega
    unfold rBytes_j1
    by_cases h0 : 0 < i
    ·have e2 : ((i : Int) - 1).toNat = i - 1 := by omega
     have hy := b_lt (a.getD (i - 1) 0)
     have d2 : a.drop (i - 1) = a.getD (i - 1) 0 :: a.drop i := by
      rw [List.drop_eq_getElem_cons (show i - 1 < a.length by omega), List.getD_eq_getElem?_getD, List.getElem?_eq_getElem (show i - 1 < a.length by omega), show i - 1 + 1 = i by omega]; rfl
     rw [ite_t (by simpa using h0), e2, Int.toNat_natCast, gd_pos (okI64 (by omega) (by omega)), gd_pos (by omega), gd_pos (by omega), gd_pos (okI64 (by omega) (by omega)), gd_pos (okI64 (by omega) (by omega)), gd_pos (by unfold rmB; omega), gd_pos (okI64 (by omega) (by omega))]
     rw [show (i : Int) - 2 = (a.length : Int) - 1 - 2 * ((c + 1 : Nat) : Int) by omega]
     refine ih (m - 1) (by omega) (c + 1) fu _ (by omega) (by omega) (by omega) (by rw [List.length_append, hz]; rfl) (hd.app (Dz.one ⟨by omega, by omega⟩)) ?_
     rw [Z_app, Z_cons, Z_nil, hz, hv', hpw, show a.length - 2 * (c + 1) = i - 1 by omega, d2, d1, nB_cons, nB_cons, List.length_cons, hdl, Nat.pow_succ]
     have e3 : (((a.getD i 0).toNat : Int) + ((a.getD (i - 1) 0).toNat : Int) * 256).toNat = (a.getD i 0).toNat + (a.getD (i - 1) 0).toNat * 256 := by omega
     rw [e3]; grind
    ·obtain rfl : i = 0 := by omega
     rw [ite_f (by simp), show ((0 : Nat) : Int).toNat = 0 from rfl, gd_pos (by unfold rmB; omega), gd_pos (okI64 (by omega) (by omega)), show ((0 : Nat) : Int) - 2 = (a.length : Int) - 1 - 2 * ((c + 1 : Nat) : Int) by omega]
     refine ih (m - 1) (by omega) (c + 1) fu _ (by omega) (by omega) (by omega) (by rw [List.length_append, hz]; rfl) (hd.app (Dz.one ⟨by omega, by omega⟩)) ?_
     rw [Z_app, Z_cons, Z_nil, hz, hv', hpw, show a.length - 2 * (c + 1) = 0 by omega, d1, nB_cons, hdl]
     have e3 : (((a.getD 0 0).toNat : Nat) : Int).toNat = (a.getD 0 0).toNat := rfl
     rw [e3]; simp
   ·have hc : rtrim n z = some (z, (nE (nZ z)).length) ∧ (z.drop 0).take (nE (nZ z)).length = nE (nZ z) := rtrim_is hn hd (by omega)
    rw [rBytes_l1, ite_f (by simp; omega), hc.1, Option.bind_some, hc.2, hv, show a.length - 2 * c = 0 by omega, List.drop_zero]
theorem rBytes_is {n : Nat} (hn : 18446744073709551616 ≤ n) {a : List UInt8} (ha : a.length ≤ 100000) : rBytes n a = some (nE (nB a), (nE (nB a)).length) := by
 unfold rBytes
 rw [gd_pos (okI64 (by omega) (by omega))]
 have := rBytes_l1_is hn a ha a.length 0 n [] (by omega) (by omega) (by omega) rfl Dz.nil (by simp [Z_nil, nB_nil])
 simpa using this
def padB (k v : Nat) : List UInt8 := List.replicate (k - (dB v).length) 0 ++ dB v
theorem padB_len {k v : Nat} (h : v < 256 ^ k) : (padB k v).length = k := by
 have := (dB_len v k).2 h
 unfold padB; simp; omega
theorem nB_app0 (k : Nat) (l : List UInt8) : nB (List.replicate k 0 ++ l) = nB l := by
 induction k with
 | zero => rfl
 | succ k ih => rw [List.replicate_succ, List.cons_append, nB_cons, ih]; simp
theorem nB_padB (k v : Nat) : nB (padB k v) = v := by unfold padB; rw [nB_app0, nB_dB]
theorem eq_padB {k v : Nat} {l : List UInt8} (hl : l.length = k) (hv : nB l = v) : l = padB k v := by
 have hlt : v < 256 ^ k := by rw [← hv, ← hl]; exact nB_lt l
 exact nB_inj (by rw [hl, padB_len hlt]) (by rw [hv, nB_padB])
theorem pWrite_lk (n : Nat) (a : List UInt32) (v : Nat) (ha : (a.drop 0).take (nD v).length = nD v) (h64 : (nD v).length ≤ 64) (s : Nat) (hs : s ≤ 256) : ∀ (m i fu : Nat) (l : List UInt8), i + m = 4 * (nD v).length → m < fu → (i ≤ s → Wr l s i v) → (s ≤ i → Wr l s s v ∧ v % 256 ^ i = v % 256 ^ s) →
  pWrite_l1 n a (s : Int) (a, (nD v).length) fu l (i : Int) = some (if v < 256 ^ s then (padB s v, s, none) else ([], 0, some 1)) := by
 intro m
 induction m with
 | zero =>
  intro i fu l hi hf h1 h2
  cases fu with
  | zero => omega
  | succ fu =>
   have hvi : v % 256 ^ i = v := Nat.mod_eq_of_lt (by
    have := (D_len v (nD v).length).1 (Nat.le_refl _)
    rwa [show (4294967296 : Nat) = 256 ^ 4 from rfl, ← Nat.pow_mul, show 4 * (nD v).length = i by omega] at this)
   have fin : l.length = s ∧ nB l = v := by
    by_cases hle : i ≤ s
    ·have := h1 hle; exact ⟨this.len, by rw [this.val]; exact hvi⟩
    ·have := h2 (by omega); exact ⟨this.1.len, by rw [this.1.val, ← this.2]; exact hvi⟩
   have hlt : v < 256 ^ s := by rw [← fin.2, ← fin.1]; exact nB_lt l
   rw [pWrite_l1, ite_f (by simp <;> omega), if_pos hlt, Int.toNat_natCast, eq_padB fin.1 fin.2]
 | succ m ih =>
  intro i fu l hi hf h1 h2
  cases fu with
  | zero => omega
  | succ fu =>
   have t1 : Int.tdiv (i : Int) 4 = ((i / 4 : Nat) : Int) := by rw [Int.tdiv_eq_ediv_of_nonneg (by omega)]; omega
   have t2 : 8 * Int.tmod (i : Int) 4 = ((8 * (i % 4) : Nat) : Int) := by rw [Int.tmod_eq_emod_of_nonneg (by omega)]; omega
   have e1 : ((s : Int) - 1 - (i : Int)).toNat = s - 1 - i := by omega
   have e2 := shr32_is ((nD v).getD (i / 4) 0) (8 * (i % 4)) (by omega)
   have hb : ((shr32 ((nD v).getD (i / 4) 0) ((8 * (i % 4) : Nat) : Int)).toUInt8).toNat = v / 256 ^ i % 256 := by rw [UInt32.toNat_toUInt8, e2, D_get, ← limb_byte]
   rw [pWrite_l1, ite_t (by simp <;> omega), t1, t2, e1, gd_pos (by decide), gd_pos (okI64 (by omega) (by omega)), gd_pos (by omega), gd_pos (by omega), gd_pos (by decide), gd_pos (okI64 (by omega) (by omega)), gd_pos (by omega)]
   simp only [ha, Int.toNat_natCast]
   generalize (shr32 ((nD v).getD (i / 4) 0) ((8 * (i % 4) : Nat) : Int)).toUInt8 = x at hb
   by_cases hlt : i < s
   ·rw [ite_t (decide_eq_true (by omega)), gd_pos (okI64 (by omega) (by omega)), gd_pos (okI64 (by omega) (by omega)), gd_pos (by omega), gd_pos (by omega)]
    unfold pWrite_j1
    rw [gd_pos (okI64 (by omega) (by omega))]
    have hw := (h1 (by omega)).step hlt hb
    refine ih (i + 1) fu _ (by omega) (by omega) (fun _ => hw) (fun hge => ?_)
    obtain rfl : s = i + 1 := by omega
    exact ⟨hw, rfl⟩
   ·rw [ite_f (decide_eq_false (by omega))]
    by_cases hx : x = 0
    ·subst hx
     rw [ite_f (by simp)]
     unfold pWrite_j1
     rw [gd_pos (okI64 (by omega) (by omega))]
     have := h2 (by omega)
     refine ih (i + 1) fu l (by omega) (by omega) (fun hle => by omega) (fun _ => ⟨this.1, ?_⟩)
     rw [mod_step, ← hb, this.2]; simp
    ·rw [ite_t (by simpa using hx)]
     have hne : v / 256 ^ i % 256 ≠ 0 := by rw [← hb]; exact fun h => hx (UInt8.toNat_inj.1 (by rw [h]; rfl))
     have hge : 256 ^ s ≤ v := by
      have h3 : 256 ^ i ≤ v := Nat.le_of_not_lt fun h => hne (by rw [Nat.div_eq_of_lt h])
      exact Nat.le_trans (Nat.pow_le_pow_right (by decide) (by omega)) h3
     rw [if_neg (by omega)]
theorem pWrite_k {n : Nat} (hn : 18446744073709551616 ≤ n) {a : List UInt32} (ha : a.length ≤ 1000000) {s : Nat} (hs : s ≤ 256) :
  pWrite n a (s : Int) = some (if (nD (nV a)).length ≤ 64 then (if nV a < 256 ^ s then (padB s (nV a), s, none) else ([], 0, some 1)) else ([], 0, some 4)) := by
 unfold pWrite
 rw [ptrim_is hn ha, Option.bind_some]
 by_cases h : (nD (nV a)).length ≤ 64
 ·rw [ite_f (by simp <;> omega), ite_f (by simp <;> omega), ite_f (by simp <;> omega), gd_pos (by omega), gd_pos rfl, gd_pos (by unfold rmB; omega), gd_pos (okI64 (by omega) (by omega)), if_pos h]
  exact pWrite_lk n a (nV a) (tk ha) h s hs (4 * (nD (nV a)).length) 0 n _ (by omega) (by omega) (fun _ => Wr.start _ _) (fun h0 => by
   obtain rfl : s = 0 := by omega
   exact ⟨Wr.start _ _, rfl⟩)
 ·rw [ite_t (by simp <;> omega), if_neg h]
end Go.Sx
end
section
namespace Go.Proofs.YthichmclbiggmaaDoor
open Go.RowKit Go.Ch Go.Sx
def hbit (n : Nat) (a0 : UInt32) (a1 : Int) : Option (UInt32) :=
 bif (decide (a1 < (0 : Int))) then
 some 0
 else
 gd (okI .i64 (31 - a1)) <|
 gd (0 ≤ (31 - a1)) <|
 some ((shr32 a0 (31 - a1)) &&& (1 : UInt32))
end Go.Proofs.YthichmclbiggmaaDoor
end
section
namespace Go.Proofs.YthichmclbiggmaaDoor
open Go.RowKit Go.Ch Go.Sx
def tabL_df : List (TypeId × Ti) := [(3, ⟨.int .i64, 1, 8, true, some [.int .i64]⟩),
 (5, ⟨.int .u8, 1, 1, true, some [.int .u8]⟩),
 (23, ⟨.sl 55, 1, 24, false, some [.nils]⟩),
 (25, ⟨.st [(23, 0), (23, 1), (23, 2)], 3, 72, false, some [.nils, .nils, .nils]⟩),
 (26, ⟨.sl 5, 1, 24, false, some [.nils]⟩),
 (40, ⟨.st [(23, 0), (23, 1)], 2, 48, false, some [.nils, .nils]⟩),
 (49, ⟨.sl 3, 1, 24, false, some [.nils]⟩),
 (55, ⟨.int .u32, 1, 4, true, some [.int .u32]⟩)]
def tab_df : Tab := fun t => (tabL_df).lookup t
theorem tabE_df : (tabL_df.map fun p => tiOf Tryd.prog p.1) = tabL_df.map fun p => some p.2 := by kernel_rfl
theorem tabO_df : TabOk Tryd.prog tab_df := tab_of tabE_df
def qPower (n : Nat) (a0 : List UInt8) (a1 : List UInt32) (a2 : List UInt32) : Option (List UInt8 × Nat × Bool) :=
 (rOf n a2).bind fun r11 =>
 (rBytes n a0).bind fun r13 =>
 (rSize n r11.1).bind fun r17 =>
 bif (((a0.length : Nat) : Int) != r17) then
  some ([], 0, false)
 else
  (rCmp n r13.1 r11.1).bind fun r22 =>
  bif (decide ((0 : Int) ≤ r22)) then
   some ([], 0, false)
  else
   (rOf n a1).bind fun r27 =>
   (rExp n r13.1 r27.1 r11.1).bind fun r29 =>
   (rWrite n r29.1 ((a0.length : Nat) : Int)).bind fun r32 =>
   some (r32.1, r32.2.1, r32.2.2)
def qPower_R (r : List UInt8 × Nat × Bool) : S := ⟨[(6, kH 0), (7, kB r.2.2)], [], [⟨.row, 5, 1, r.2.1, .b r.1⟩]⟩
def qPower_ct (n : Nat) (r : List UInt8 × Nat × Bool) : Ct := ctc aB fun x0 l0 => ctc aW fun x1 l1 => ctc aW fun x2 l2 => ct0 fun H => ([qPower n l0 l1 l2 = some r], shA H.length (.t [.c (.wh 0), .c (.s (.b r.2.2))]), shH H.length [⟨.row, 5, 1, r.2.1, .b r.1⟩])
theorem qPower_ok (n : Nat) (r : List UInt8 × Nat × Bool) : FnOk Tryd.prog Tr 13 (qPower_ct n r) := by
 refine ⟨fun args H g av objs hF hg ρ w vals hG hp ha => ?_, _, Tryd.func13, by kernel_rfl, by kernel_rfl⟩
 obtain ⟨x0, _, l0, rfl, e0, hF⟩ := ctc_inv hF
 obtain ⟨x1, _, l1, rfl, e1, hF⟩ := ctc_inv hF
 obtain ⟨x2, _, l2, rfl, e2, hF⟩ := ctc_inv hF
 obtain ⟨rfl, rfl, rfl, rfl⟩ := ct0_inv hF
 dsimp only
 obtain ⟨v0, vals, rfl, k0, ha⟩ := F2.inv ha
 obtain ⟨v1, vals, rfl, k1, ha⟩ := F2.inv ha
 obtain ⟨v2, vals, rfl, k2, ha⟩ := F2.inv ha
 obtain rfl := F2.inv0 ha
 have h : qPower n l0 l1 l2 = some r := hg
 obtain ⟨p0, s0, o0⟩ := aB_ok hp e0 (k0) 5
 obtain ⟨p1, s1, o1⟩ := aW_ok hp e1 (k1) 55
 obtain ⟨p2, s2, o2⟩ := aW_ok hp e2 (k2) 55
 have hR0 := rel0 (gv := (fun _ => undef)) (n := 35) (w := w) (args := [kH 0, kH 1, kH 2]) (H := [⟨.ro false, 5, 1, l0.length, .b l0⟩, ⟨.ro false, 55, 1, l1.length, .w l1⟩, ⟨.ro false, 55, 1, l2.length, .w l2⟩]) (gl := []) (hpL (ps := [p0, p1, p2]) (F2.cons o0 (F2.cons o1 (F2.cons o2 F2.nil)))) (allRo_ok rfl) (F2.cons s0 (F2.cons s1 (F2.cons s2 F2.nil))) GlR.nil (by simp)
 clear ha hp hg hF k0 k1 k2 e0 e1 e2
 refine calls_W Tryd.func13 rfl rfl hR0 (Q := fun e s => (e = .ret ∨ e = .normal) ∧ s = qPower_R r) ?_ ?_
 ·clear hR0
  unfold qPower at h
  have hT := tabO_df
  refine Vrs hT [0, 1, 2] ⟨[(0, kH 0), (1, kH 1), (2, kH 2)], [], [ob 5 l0, ow 55 l1, ow 55 l2]⟩ ?_
  obtain ⟨r11, g1, h⟩ := bind_some' h
  refine Vgs hT (fT 1 (rOf_ok n r11) fN) [] [] [0, 1, 3] ⟨[(0, kH 0), (1, kH 1), (8, kH 2)], [], [ob 5 l0, ow 55 l1, ⟨(.ro true), 3, 1, r11.2, .z r11.1⟩]⟩ (aP g1 aN) ?_
  obtain ⟨r13, g2, h⟩ := bind_some' h
  refine Vgs hT (fT 1 (rBytes_ok n r13) fN) [] [] [0, 1, 2, 3] ⟨[(0, kH 0), (1, kH 1), (8, kH 2), (9, kH 3)], [], [ob 5 l0, ow 55 l1, ⟨(.ro true), 3, 1, r11.2, .z r11.1⟩, ⟨(.ro true), 3, 1, r13.2, .z r13.1⟩]⟩ (aP g2 aN) ?_
  refine W_seq ?_
  refine W_seq ?_
  obtain ⟨r17, g3, h⟩ := bind_some' h
  rcases Bool.eq_false_or_eq_true (((l0.length : Nat) : Int) != r17) with g4 | g4
  ·replace h := bif_t h g4
   refine Vg hT (fT 3 (rSize_ok n r17) fN) [(5, true)] [] [0, 1, 2, 3] ⟨[(0, kH 0), (1, kH 1), (8, kH 2), (9, kH 3), (24, kB true)], [], [ob 5 l0, ow 55 l1, ⟨(.ro true), 3, 1, r11.2, .z r11.1⟩, ⟨(.ro true), 3, 1, r13.2, .z r13.1⟩]⟩ (aP g3 (aP g4 aN)) ?_
   refine Vi (true) (fun _ => ?_) (fun hb => by cases hb)
   refine Vrs hT [] ⟨[(6, .c (.nils)), (7, kB false)], [], []⟩ ?_
   refine Vc [.nil 6 5 1 (.b [])] [0] (qPower_R ([], 0, false)) (W_ret ?_)
   exact ⟨.inl rfl, by cases h; rfl⟩
  ·replace h := bif_f h g4
   obtain ⟨r22, g5, h⟩ := bind_some' h
   refine Vg hT (fT 3 (rSize_ok n r17) (fT 8 (rCmp_ok n r22) fN)) [(5, false)] [] [0, 1, 2, 3] ⟨[(0, kH 0), (1, kH 1), (8, kH 2), (9, kH 3), (24, kB (decide ((0 : Int) ≤ r22)))], [], [ob 5 l0, ow 55 l1, ⟨(.ro true), 3, 1, r11.2, .z r11.1⟩, ⟨(.ro true), 3, 1, r13.2, .z r13.1⟩]⟩ (aP g3 (aP g4 (aP g5 aN))) ?_
   refine Vi ((decide ((0 : Int) ≤ r22))) (fun g9 => ?_) (fun g9 => ?_)
   ·replace h := bif_t h g9
    refine Vrs hT [] ⟨[(6, .c (.nils)), (7, kB false)], [], []⟩ ?_
    refine Vc [.nil 6 5 1 (.b [])] [0] (qPower_R ([], 0, false)) (W_ret ?_)
    exact ⟨.inl rfl, by cases h; rfl⟩
   ·replace h := bif_f h g9
    refine W_skip ?_
    obtain ⟨r27, g6, h⟩ := bind_some' h
    obtain ⟨r29, g7, h⟩ := bind_some' h
    obtain ⟨r32, g8, h⟩ := bind_some' h
    refine Vgs hT (fT 2 (rOf_ok n r27) (fT 4 (rExp_ok n r29) (fT 7 (rWrite_ok n r32) fN))) [] [] [6] ⟨[(6, kH 0), (7, kB r32.2.2)], [], [⟨.row, 5, 1, r32.2.1, .b r32.1⟩]⟩ (aP g6 (aP g7 (aP g8 aN))) ?_
    refine Vc [] [0] (qPower_R (r32.1, r32.2.1, r32.2.2)) (W_ret ?_)
    exact ⟨.inl rfl, by cases h; rfl⟩
 ·rintro e s' ⟨he, rfl⟩
  refine ⟨he, fun a' w' hr => ?_⟩
  exact retS_ok tabO_df hr (rs := [.tmp 6, .tmp 7]) rfl (objs := [0]) (by kernel_rfl)
end Go.Proofs.YthichmclbiggmaaDoor
end
section
namespace Go.Sx
open Go Go.RowKit Go.Ch Go.Proofs.YthichmclbiggmaaDoor
def N64 : Nat := 18446744073709551616
abbrev Dg (l : List UInt8) : List UInt8 := digest consts begin8 l
theorem Dg_len (l : List UInt8) : (Dg l).length = 32 := length_digest _ _ _
end Go.Sx
end
section
namespace Go.Sx
open Go Go.RowKit Go.Ch Go.Proofs.YthichmclbiggmaaDoor
theorem E2 (v : Nat) {k : Nat} (h : (nD v).length ≤ k) : (nE v).length ≤ 2 * k := by
 rw [E_len, Nat.pow_mul]; exact (D_len v k).1 h
theorem D_of_dB {v k : Nat} (h : (dB v).length ≤ k) : (nD v).length ≤ (k + 3) / 4 := by rw [D_len_dB]; omega
theorem ksize_l1_is {n : Nat} (hn : 18446744073709551616 ≤ n) {a : List UInt32} (ha : a.length ≤ 1000000) : ∀ (m i fu : Nat), i + m = 129 → m < fu → i ≤ (dB (nV a)).length →
  ksize_l1 n a fu (i : Int) = some (if (dB (nV a)).length ≤ 128 then (((dB (nV a)).length : Nat) : Int) else -1) := by
 intro m
 induction m with
 | zero =>
  intro i fu hi hf hle
  cases fu with
  | zero => omega
  | succ fu => rw [ksize_l1, ite_f (by simp; omega), if_neg (by omega)]
 | succ m ih =>
  intro i fu hi hf hle
  cases fu with
  | zero => omega
  | succ fu =>
   rw [ksize_l1, ite_t (by simp; omega), pWrite_k hn ha (show i ≤ 256 by omega), Option.bind_some]
   by_cases h : (dB (nV a)).length ≤ i
   ·have h1 := (dB_len _ _).1 h
    have h2 := D_of_dB h
    rw [if_pos (by omega), if_pos h1, ite_t (by rfl), if_pos (by omega)]
    congr 1; omega
   ·have h1 : ¬ nV a < 256 ^ i := fun h' => h ((dB_len _ _).2 h')
    have key : (((if (nD (nV a)).length ≤ 64 then (if nV a < 256 ^ i then (padB i (nV a), i, none) else ([], 0, some 1)) else ([], 0, some 4)) : List UInt8 × Nat × Option Int).2.2).isNone = false := by
     rw [if_neg h1]; split <;> rfl
    rw [ite_f key, gd_pos (okI64 (by omega) (by omega))]
    exact ih (i + 1) fu (by omega) (by omega) (by omega)
theorem ksize_is {n : Nat} (hn : 18446744073709551616 ≤ n) {a : List UInt32} (ha : a.length ≤ 1000000) :
  ksize n a = some (if (dB (nV a)).length ≤ 128 then (((dB (nV a)).length : Nat) : Int) else -1) :=
 ksize_l1_is hn ha 129 0 n rfl (by omega) (Nat.zero_le _)
theorem and1 (x : UInt32) : ((x &&& (1 : UInt32)) == 1) = decide (x.toNat % 2 = 1) := by
 have e : (x &&& (1 : UInt32)).toNat = x.toNat % 2 := by rw [UInt32.toNat_and]; exact Nat.and_one_is_mod _
 by_cases h : x.toNat % 2 = 1
 ·rw [decide_eq_true h, beq_iff_eq]; exact UInt32.toNat_inj.1 (by rw [e, h]; rfl)
 ·rw [decide_eq_false h, beq_eq_false_iff_ne]; intro h2; rw [h2] at e; exact h e.symm
theorem V_mod2 (a : List UInt32) : nV a % 2 = (a.getD 0 0).toNat % 2 := by
 cases a with
 | nil => rfl
 | cons x t => rw [V_cons]; simp; omega
theorem kodd_is (n : Nat) {a : List UInt32} (ha : a.length ≤ 1000000) : kodd n a = some (decide (nV a % 2 = 1)) := by
 unfold kodd
 cases a with
 | nil => rfl
 | cons x t =>
  rw [ite_t (by simp <;> omega), gd_pos (by omega), gd_pos (by simp <;> omega), and1, V_mod2]
def okP (N E : Nat) : Bool := decide (62 ≤ (dB N).length) && (decide ((dB N).length ≤ 128) && (decide (N % 2 = 1) && (decide (E % 2 = 1) && (decide (3 ≤ E) && decide (E < N)))))
theorem okP_iff {N E : Nat} : okP N E = true ↔ 62 ≤ (dB N).length ∧ (dB N).length ≤ 128 ∧ N % 2 = 1 ∧ E % 2 = 1 ∧ 3 ≤ E ∧ E < N := by simp [okP]
theorem V_three : nV [3] = 3 := rfl
theorem kCheck_is {n : Nat} (hn : 18446744073709551616 ≤ n) {a b : List UInt32} (ha : a.length ≤ 1000000) (hb : b.length ≤ 1000000) : kCheck n a b = some (if okP (nV a) (nV b) then none else some 1) := by
 have no : ∀ {q : Prop}, ¬ (62 ≤ (dB (nV a)).length ∧ (dB (nV a)).length ≤ 128 ∧ nV a % 2 = 1 ∧ nV b % 2 = 1 ∧ 3 ≤ nV b ∧ nV b < nV a) → (some (some 1) : Option (Option Int)) = some (if okP (nV a) (nV b) then none else some 1) := fun h => by
  rw [if_neg (fun h' => h (okP_iff.1 h'))]
 unfold kCheck
 rw [ksize_is hn ha, Option.bind_some]
 by_cases h1 : 62 ≤ (dB (nV a)).length ∧ (dB (nV a)).length ≤ 128
 ·rw [if_pos h1.2, ite_f (by simp; omega), kodd_is n ha, Option.bind_some]
  by_cases h2 : nV a % 2 = 1
  ·rw [ite_f (by simp [h2]), kodd_is n hb, Option.bind_some]
   by_cases h3 : nV b % 2 = 1
   ·rw [ite_f (by simp [h3]), pCmp_is hn hb (by decide), Option.bind_some, V_three]
    by_cases h4 : nV b < 3
    ·rw [ite_t (by simpa using cmpN_neg.2 h4)]; exact no (q := True) (by omega)
    ·rw [ite_f (by simpa using fun h => h4 (cmpN_neg.1 h)), pCmp_is hn hb ha, Option.bind_some]
     by_cases h5 : nV b < nV a
     ·rw [ite_f (by simpa using cmpN_neg.2 h5), if_pos (okP_iff.2 ⟨h1.1, h1.2, h2, h3, by omega, h5⟩)]
     ·rw [ite_t (by simpa using fun h => h5 (cmpN_neg.1 h))]; exact no (q := True) (by omega)
   ·rw [ite_t (by simp [h3])]; exact no (q := True) (by omega)
  ·rw [ite_t (by simp [h2])]; exact no (q := True) (by omega)
 ·have : (if (dB (nV a)).length ≤ 128 then (((dB (nV a)).length : Nat) : Int) else -1) < 62 := by split <;> omega
  rw [ite_t (by simpa using this)]; exact no (q := True) (by omega)
def powS (b : List UInt8) (e N : Nat) : List UInt8 × Nat × Bool := if b.length = (dB N).length ∧ nB b < N then (padB (dB N).length (nB b ^ e % N), (dB N).length, true) else ([], 0, false)
theorem kpower_is {n : Nat} (hn : 18446744073709551616 ≤ n) {b : List UInt8} {e N : List UInt32} (hb : b.length ≤ 100000) (he : e.length ≤ 1000000) (hN : N.length ≤ 1000000) (hs : (dB (nV N)).length ≤ 128) (hD : (nD (nV e)).length ≤ 64) :
  kpower n b e N = some (powS b (nV e) (nV N)) := by
 unfold kpower powS
 have hDN := D_of_dB hs
 rw [ksize_is hn hN, Option.bind_some, if_pos hs, pRead_is hn hb, Option.bind_some]
 by_cases h1 : b.length = (dB (nV N)).length
 ·have hle : (dB (nB b)).length ≤ b.length := (dB_len _ _).2 (nB_lt b)
  have hDb := D_of_dB (v := nB b) (k := 128) (by omega)
  rw [if_neg (by omega), ite_f (by rfl), ite_f (by simp [h1])]
  dsimp only
  rw [pCmp_is hn (by omega) hN, Option.bind_some, V_D]
  by_cases h2 : nB b < nV N
  ·have hm : nB b ^ nV e % nV N < nV N := Nat.mod_lt _ (by omega)
   have hw := (dB_len _ _).2 (Nat.lt_trans hm ((dB_len (nV N) _).1 (Nat.le_refl _)))
   have hDm := D_of_dB (Nat.le_trans hw hs)
   rw [ite_f (by simpa using cmpN_neg.2 h2), pExp_is hn (by omega) he hN, V_D, if_pos ⟨by omega, hD, by omega⟩, if_neg (by omega), Option.bind_some, ite_f (by rfl)]
   dsimp only
   rw [pWrite_k hn (by omega) (by omega), Option.bind_some, V_D, if_pos (by omega), if_pos ((dB_len _ _).1 hw), if_pos ⟨h1, h2⟩]
   rfl
  ·rw [ite_t (by simpa using fun h => h2 (cmpN_neg.1 h)), if_neg (fun h => h2 h.2)]
 ·rw [if_neg (c := b.length = (dB (nV N)).length ∧ nB b < nV N) (fun h => h1 h.1)]
  split
  ·rw [ite_t (by rfl)]
  ·rw [ite_f (by rfl), ite_t (by simp only [bne_iff_ne]; omega)]
theorem rWrite_l1_k (n : Nat) (v s : Nat) (hl : (nE v).length ≤ 100000) (hs : s ≤ 1000000) : ∀ (m i fu : Nat) (l : List UInt8), i + m = s → m < fu → Wr l s i v →
  ∃ r, rWrite_l1 n (nE v) (s : Int) fu l (i : Int) = some (r, s, true) ∧ r.length = s ∧ nB r = v % 256 ^ s := by
 intro m
 induction m with
 | zero =>
  intro i fu l hi hf hw
  cases fu with
  | zero => omega
  | succ fu =>
   obtain rfl : i = s := by omega
   exact ⟨l, by rw [rWrite_l1, ite_f (by simp)]; simp, hw.len, hw.val⟩
 | succ m ih =>
  intro i fu l hi hf hw
  cases fu with
  | zero => omega
  | succ fu =>
   have t1 : Int.tdiv (i : Int) 2 = ((i / 2 : Nat) : Int) := by rw [Int.tdiv_eq_ediv_of_nonneg (by omega)]; omega
   have t2 : Int.tmod (i : Int) 2 = ((i % 2 : Nat) : Int) := by rw [Int.tmod_eq_emod_of_nonneg (by omega)]; omega
   have e1 : ((s : Int) - 1 - (i : Int)).toNat = s - 1 - i := by omega
   have hE := E_get v (i / 2)
   rw [rWrite_l1, ite_t (by simp <;> omega), gd_pos (by decide), t1, t2, gd_pos (okI64 (by omega) (by omega))]
   by_cases hin : i / 2 < (nE v).length
   ·have key : ∀ x : Nat, x % 256 = v / 256 ^ i % 256 → x < 65536 → ∃ r, rWrite_j1 n (nE v) (s : Int) l (i : Int) (rWrite_l1 n (nE v) (s : Int) fu) (x : Int) = some (r, s, true) ∧ r.length = s ∧ nB r = v % 256 ^ s := by
     intro x hx hx2
     unfold rWrite_j1
     have t3 : Int.tmod (x : Int) 256 = ((x % 256 : Nat) : Int) := by rw [Int.tmod_eq_emod_of_nonneg (by omega)]; omega
     rw [gd_pos (okI64 (by omega) (by omega)), gd_pos (okI64 (by omega) (by omega)), gd_pos (by decide), gd_pos (by omega), gd_pos (by rw [Int.toNat_natCast]; omega), gd_pos (okI64 (by omega) (by omega)), t3, e1]
     refine ih (i + 1) fu _ (by omega) (by omega) (hw.step (by omega) ?_)
     rw [← hx]; simp [UInt8.ofInt]; omega
    rw [ite_t (by simp <;> omega), gd_pos (by decide), gd_pos (okI64 (by omega) (by omega)), gd_pos (by omega), gd_pos (by omega), gd_pos (by decide), Int.toNat_natCast, hE]
    have hb := digit_byte v i
    have hlt : v / 65536 ^ (i / 2) % 65536 < 65536 := Nat.mod_lt _ (by decide)
    by_cases h : i % 2 = 1
    ·rw [if_pos h] at hb
     have t4 : Int.tdiv ((v / 65536 ^ (i / 2) % 65536 : Nat) : Int) 256 = ((v / 65536 ^ (i / 2) % 65536 / 256 : Nat) : Int) := by rw [Int.tdiv_eq_ediv_of_nonneg (by omega)]; omega
     rw [ite_t (by simp only [beq_iff_eq]; omega), t4]
     generalize v / 65536 ^ (i / 2) % 65536 = q at *
     rw [gd_pos (by decide), gd_pos (okI64 (by omega) (by omega))]
     exact key (q / 256) hb (by omega)
    ·rw [if_neg h] at hb
     rw [ite_f (by simp only [beq_eq_false_iff_ne]; omega)]
     exact key _ hb hlt
   ·have hv : v < 256 ^ i := by
     have h1 := (E_len v _).1 (Nat.le_refl _)
     rw [show (65536 : Nat) = 256 ^ 2 from rfl, ← Nat.pow_mul] at h1
     exact Nat.lt_of_lt_of_le h1 (Nat.pow_le_pow_right (by decide) (by omega))
    have hv2 : v < 256 ^ s := Nat.lt_of_lt_of_le hv (Nat.pow_le_pow_right (by decide) (by omega))
    exact ⟨l, by rw [ite_f (by simp <;> omega), Int.toNat_natCast], hw.len, by rw [hw.val, Nat.mod_eq_of_lt hv, Nat.mod_eq_of_lt hv2]⟩
theorem rWrite_p {n : Nat} (hn : 18446744073709551616 ≤ n) {v s : Nat} (hl : (nE v).length ≤ 100000) (hs : s ≤ 1000000) (hv : v < 256 ^ s) : rWrite n (nE v) (s : Int) = some (padB s v, s, true) := by
 obtain ⟨r, h1, h2, h3⟩ := rWrite_l1_k n v s hl hs s 0 n _ (by omega) (by omega) (Wr.start _ _)
 have := (dB_len _ _).2 hv
 unfold rWrite
 rw [ite_f (by simp <;> omega), rSize_is n hl, Option.bind_some, ite_f (by simp <;> omega), gd_pos (by omega), gd_pos rfl, gd_pos (by unfold rmB; omega), Int.toNat_natCast]
 rw [Nat.mod_eq_of_lt hv] at h3
 rw [← eq_padB h2 h3]
 exact h1
theorem E_of_dB' {v k : Nat} (h : (dB v).length ≤ k) : (nE v).length ≤ k := by
 rw [E_len]
 exact Nat.lt_of_lt_of_le ((dB_len _ _).1 h) (Nat.pow_le_pow_left (by decide) _)
theorem qPower_is {n : Nat} (hn : 18446744073709551616 ≤ n) {b : List UInt8} {e N : List UInt32} (hb : b.length ≤ 1000) (he : e.length ≤ 500) (hN : N.length ≤ 500) :
  qPower n b e N = some (powS b (nV e) (nV N)) := by
 have hEN := E2 (nV N) (k := N.length) D_le
 have hEe := E2 (nV e) (k := e.length) D_le
 have hEb := E_of_dB' ((dB_len (nB b) _).2 (nB_lt b))
 unfold qPower powS
 rw [rOf_is hn (by omega), Option.bind_some, rBytes_is hn (by omega), Option.bind_some]
 dsimp only
 rw [rSize_is n (by omega), Option.bind_some]
 by_cases h1 : b.length = (dB (nV N)).length
 ·rw [ite_f (by simp [h1]), rCmp_is hn (by omega) (by omega), Option.bind_some]
  by_cases h2 : nB b < nV N
  ·have hm : nB b ^ nV e % nV N < nV N := Nat.mod_lt _ (by omega)
   have hw := Nat.lt_trans hm ((dB_len (nV N) _).1 (Nat.le_refl _))
   have hEm := E_mono (Nat.le_of_lt hm)
   rw [ite_f (by simpa using cmpN_neg.2 h2), rOf_is hn (by omega), Option.bind_some]
   dsimp only
   rw [rExp_is hn (by omega) (by omega) (by omega) (by omega), Option.bind_some]
   dsimp only
   rw [h1, rWrite_p hn (by omega) (by omega) hw, Option.bind_some, if_pos ⟨rfl, h2⟩]
  ·rw [ite_t (by simpa using fun h => h2 (cmpN_neg.1 h)), if_neg (fun h => h2 h.2)]
 ·rw [ite_t (by simp only [bne_iff_ne]; omega), if_neg (fun h => h1 h.1)]
def pfx : List UInt8 := [48, 49, 48, 13, 6, 9, 96, 134, 72, 1, 101, 3, 4, 2, 1, 5, 0, 4, 32]
def laidS (b : List UInt8) (k : Nat) : List UInt8 := [0, 1] ++ List.replicate (k - 54) 255 ++ [0] ++ pfx ++ Dg b
theorem laidS_len {b : List UInt8} {k : Nat} (h : 54 ≤ k) : (laidS b k).length = k := by
 unfold laidS pfx; simp [Dg_len]; omega
theorem klaid_is {n : Nat} (hn : 18446744073709551616 ≤ n) {b : List UInt8} {k : Nat} (hb : b.length ≤ 100000) (h1 : 54 ≤ k) (h2 : k ≤ 200) : klaid n b (k : Int) = some (laidS b k) := by
 have e : ([pfx, Dg b] : List (List UInt8)).flatten = pfx ++ Dg b := by simp
 have el : (pfx ++ Dg b).length = 51 := by unfold pfx; simp [Dg_len]
 have e3 : ((k : Int) - 3 - ((51 : Nat) : Int)).toNat = k - 54 := by omega
 have e2 : ([[0, 1], List.replicate (k - 54) (([255] : List UInt8).getD 0 0), [0], pfx ++ Dg b] : List (List UInt8)).flatten = laidS b k := by unfold laidS; simp
 unfold klaid
 rw [show kprefix n = some () from rfl, Option.bind_some, gsum_is (by omega) hb, Option.bind_some]
 change gd (([pfx, Dg b] : List (List UInt8)).length ≤ 1000000) (gd (([pfx, Dg b] : List (List UInt8)).flatten.length ≤ 1000000000) (gd (okI .i64 ((k : Int) - 3)) (gd (okI .i64 ((k : Int) - 3 - ((([pfx, Dg b] : List (List UInt8)).flatten.length : Nat) : Int))) (gd (([255] : List UInt8).length = 1) (gd (0 ≤ ((k : Int) - 3 - ((([pfx, Dg b] : List (List UInt8)).flatten.length : Nat) : Int))) (gd (((k : Int) - 3 - ((([pfx, Dg b] : List (List UInt8)).flatten.length : Nat) : Int)) ≤ 200)
  (gd (([[0, 1], List.replicate ((k : Int) - 3 - ((([pfx, Dg b] : List (List UInt8)).flatten.length : Nat) : Int)).toNat (([255] : List UInt8).getD 0 0), [0], ([pfx, Dg b] : List (List UInt8)).flatten] : List (List UInt8)).length ≤ 1000000) (gd (([[0, 1], List.replicate ((k : Int) - 3 - ((([pfx, Dg b] : List (List UInt8)).flatten.length : Nat) : Int)).toNat (([255] : List UInt8).getD 0 0), [0], ([pfx, Dg b] : List (List UInt8)).flatten] : List (List UInt8)).flatten.length ≤ 1000000000)
  (some (([[0, 1], List.replicate ((k : Int) - 3 - ((([pfx, Dg b] : List (List UInt8)).flatten.length : Nat) : Int)).toNat (([255] : List UInt8).getD 0 0), [0], ([pfx, Dg b] : List (List UInt8)).flatten] : List (List UInt8)).flatten)))))))))) = _
 rw [e, el, e3, e2, laidS_len h1]
 rw [gd_pos (by simp), gd_pos (by omega), gd_pos (okI64 (by omega) (by omega)), gd_pos (okI64 (by omega) (by omega)), gd_pos (by rfl), gd_pos (by omega), gd_pos (by omega), gd_pos (by simp), gd_pos (by omega)]
theorem D64 {N D : Nat} (k2 : (dB N).length ≤ 128) (h : D < N) : (nD D).length ≤ 64 := Nat.le_trans (D_mono (Nat.le_of_lt h)) (by have := D_of_dB k2; omega)
def verS (N E : Nat) (b sig : List UInt8) : Bool := (powS sig E N).2.2 && ((powS sig E N).1 == laidS b (dB N).length)
theorem kVerify_is {n : Nat} (hn : 18446744073709551616 ≤ n) {N E : List UInt32} {b sig : List UInt8} (hN : N.length ≤ 1000000) (hE : E.length ≤ 1000000) (hb : b.length ≤ 100000) (hs : sig.length ≤ 100000) :
  kVerify n N E b sig = some (if okP (nV N) (nV E) then (if verS (nV N) (nV E) b sig then none else some 8) else some 1) := by
 unfold kVerify
 rw [kCheck_is hn hN hE, Option.bind_some]
 cases hP : okP (nV N) (nV E) with
 | false => rfl
 | true =>
  obtain ⟨k1, k2, _, _, _, hlt⟩ := okP_iff.1 hP
  rw [if_pos rfl, ite_f (by rfl), kpower_is hn hs hE hN k2 (D64 k2 hlt), Option.bind_some, if_pos rfl]
  unfold verS
  cases h : (powS sig (nV E) (nV N)).2.2 with
  | false => rfl
  | true =>
   rw [ite_f (by rfl), ksize_is hn hN, Option.bind_some, if_pos k2, klaid_is hn hb (by omega) (by omega), Option.bind_some, show ∀ x y : List UInt8, kEqual n x y = some (x == y) from fun _ _ => rfl, Option.bind_some]
   cases (powS sig (nV E) (nV N)).1 == laidS b (dB (nV N)).length <;> rfl
theorem kcut_is (n : Nat) (a : List UInt8) (k : Nat) : ∃ m, kcut n a (k : Int) = some (a, m) ∧ ((a.drop 0).take m).length ≤ k := by
 unfold kcut
 by_cases h : k < a.length
 ·exact ⟨k, by rw [ite_t (by simp; omega), gd_pos (by omega), gd_pos (by omega), Int.toNat_natCast], by simp; omega⟩
 ·exact ⟨a.length, by rw [ite_f (by simp; omega)], by simp; omega⟩
theorem kup_is : kup N64 = some true := by decide +kernel
theorem hN64 : 18446744073709551616 ≤ N64 := Nat.le_refl _
end Go.Sx
end
section
namespace Go.Proofs.YthichmclbiggmaaDoor
open Go.RowKit Go.Ch Go.Sx
def tabL_dvone : List (TypeId × Ti) := [(5, ⟨.int .u8, 1, 1, true, some [.int .u8]⟩),
 (9, ⟨.str, 1, 16, true, some [.str]⟩),
 (23, ⟨.sl 55, 1, 24, false, some [.nils]⟩),
 (26, ⟨.sl 5, 1, 24, false, some [.nils]⟩),
 (31, ⟨.ifc, 1, 16, true, some [.ifc]⟩),
 (40, ⟨.st [(23, 0), (23, 1)], 2, 48, false, some [.nils, .nils]⟩),
 (55, ⟨.int .u32, 1, 4, true, some [.int .u32]⟩)]
def tab_dvone : Tab := fun t => (tabL_dvone).lookup t
theorem tabE_dvone : (tabL_dvone.map fun p => tiOf Tryd.prog p.1) = tabL_dvone.map fun p => some p.2 := by kernel_rfl
theorem tabO_dvone : TabOk Tryd.prog tab_dvone := tab_of tabE_dvone
def lOne (n : Nat) (a0_0 : List UInt32) (a0_1 : List UInt32) (a1 : List UInt8) (a2 : List UInt8) (a3 : List UInt8) : Option (Bool) :=
 (kup n).bind fun r16 =>
 bif (decide ((70 : Int) < ((a0_0.length : Nat) : Int))) then
  some r16
 else
  bif (decide ((2 : Int) < ((a0_1.length : Nat) : Int))) then
   some r16
  else
   bif (decide ((300 : Int) < ((a2.length : Nat) : Int))) then
    some r16
   else
    bif (decide ((300 : Int) < ((a3.length : Nat) : Int))) then
     some r16
    else
     (kcut n a1 300).bind fun r39 =>
     (kVerify n a0_0 a0_1 ((a1.drop 0).take r39.2) a2).bind fun r43 =>
     (kVerify n a0_0 a0_1 ((a1.drop 0).take r39.2) a3).bind fun r47 =>
     bif (!((r43).isNone)) then
      some r16
     else
      bif (!((r47).isNone)) then
       some r16
      else
       (qPower n a2 a0_1 a0_0).bind fun r61 =>
       (qPower n a3 a0_1 a0_0).bind fun r70 =>
       bif r16 then
        bif r61.2.2 then
         bif r70.2.2 then
          some (r61.1 == r70.1)
         else
          some false
        else
         some false
       else
        some false
def lOne_R (r : Bool) : S := ⟨[(8, kB r)], [], []⟩
def lOne_ct (n : Nat) (r : Bool) : Ct := ctc (fun _ => aGc 2) fun x0 y0 => ctl (fun H => aW H (.c (y0.getD 0 .junk))) fun l0_0 => ctl (fun H => aW H (.c (y0.getD 1 .junk))) fun l0_1 => ctc aB fun x1 l1 => ctc aB fun x2 l2 => ctc aB fun x3 l3 => ct0 fun H => ([lOne n l0_0 l0_1 l1 l2 l3 = some r], shA H.length (kB r), shH H.length [])
theorem lOne_ok (n : Nat) (r : Bool) : FnOk Tryd.prog GK 5 (lOne_ct n r) := by
 refine ⟨fun args H g av objs hF hg ρ w vals hG hp ha => ?_, _, Tryd.func5, by kernel_rfl, by kernel_rfl⟩
 obtain ⟨x0, _, y0, rfl, e0, hF⟩ := ctc_inv hF
 obtain ⟨l0_0, e1, hF⟩ := ctl_inv hF
 obtain ⟨l0_1, e2, hF⟩ := ctl_inv hF
 obtain ⟨x1, _, l1, rfl, e3, hF⟩ := ctc_inv hF
 obtain ⟨x2, _, l2, rfl, e4, hF⟩ := ctc_inv hF
 obtain ⟨x3, _, l3, rfl, e5, hF⟩ := ctc_inv hF
 obtain ⟨rfl, rfl, rfl, rfl⟩ := ct0_inv hF
 dsimp only
 obtain ⟨v0, vals, rfl, k0, ha⟩ := F2.inv ha
 obtain ⟨v1, vals, rfl, k1, ha⟩ := F2.inv ha
 obtain ⟨v2, vals, rfl, k2, ha⟩ := F2.inv ha
 obtain ⟨v3, vals, rfl, k3, ha⟩ := F2.inv ha
 obtain rfl := F2.inv0 ha
 have hI : ∀ w', Kp (noB (fun _ => undef)) w w' → GK w' := fun _ hk => GK.keep hk.below hG
 have h : lOne n l0_0 l0_1 l1 l2 l3 = some r := hg
 obtain ⟨vs0, hn0, rfl, hy0⟩ := aGc_ok e0 k0
 obtain ⟨p0_0, s0_0, o0_0⟩ := aW_ok hp e1 (hy0 0 (by decide)) 55
 obtain ⟨p0_1, s0_1, o0_1⟩ := aW_ok hp e2 (hy0 1 (by decide)) 55
 obtain ⟨p1, s1, o1⟩ := aB_ok hp e3 (k1) 5
 obtain ⟨p2, s2, o2⟩ := aB_ok hp e4 (k2) 5
 obtain ⟨p3, s3, o3⟩ := aB_ok hp e5 (k3) 5
 have hR0 := rel0 (gv := (fun _ => undef)) (n := 87) (w := w) (args := [.g 2 (.c [.wh 0, .wh 1]), kH 2, kH 3, kH 4]) (H := [⟨.ro false, 55, 1, l0_0.length, .w l0_0⟩, ⟨.ro false, 55, 1, l0_1.length, .w l0_1⟩, ⟨.ro false, 5, 1, l1.length, .b l1⟩, ⟨.ro false, 5, 1, l2.length, .b l2⟩, ⟨.ro false, 5, 1, l3.length, .b l3⟩]) (gl := []) (hpL (ps := [p0_0, p0_1, p1, p2, p3]) (F2.cons o0_0 (F2.cons o0_1 (F2.cons o1 (F2.cons o2 (F2.cons o3 F2.nil)))))) (allRo_ok rfl) (F2.cons ⟨vs0, (by rw [lstE undef hn0]; exact (F2.cons s0_0 (F2.cons s0_1 F2.nil))), hn0, rfl⟩ (F2.cons s1 (F2.cons s2 (F2.cons s3 F2.nil)))) GlR.nil (by simp)
 clear ha hp hg hF k0 k1 k2 k3 e0 e1 e2 e3 e4 e5
 refine calls_W Tryd.func5 rfl rfl hR0 (Q := fun e s => (e = .ret ∨ e = .normal) ∧ s = lOne_R r) ?_ ?_
 ·clear hR0
  unfold lOne at h
  have hT := tabO_dvone
  refine Vrs hT [2, 3, 4, 5, 0, 1] ⟨[(1, kH 0), (2, kH 1), (3, kH 2), (4, kP 3 0)], [], [ob 5 l1, ob 5 l2, ob 5 l3, ⟨.blk, 40, 1, 2, .c [.wh 4, .wh 5]⟩, ow 55 l0_0, ow 55 l0_1]⟩ ?_
  obtain ⟨r16, g1, h⟩ := bind_some' h
  refine Vgs hT (fT 0 (kup_ok n r16) fN) [] [] [0, 1, 2, 3, 4, 5] ⟨[(1, kH 0), (2, kH 1), (3, kH 2), (4, kP 3 0), (9, kB r16)], [], [ob 5 l1, ob 5 l2, ob 5 l3, ⟨.blk, 40, 1, 2, .c [.wh 4, .wh 5]⟩, ow 55 l0_0, ow 55 l0_1]⟩ (aP g1 aN) ?_
  refine W_seq ?_
  refine W_seq ?_
  rcases Bool.eq_false_or_eq_true (decide ((70 : Int) < ((l0_0.length : Nat) : Int))) with g2 | g2
  ·replace h := bif_t h g2
   refine Vg hT fN [(4, true)] [] [0, 1, 2, 3, 4, 5] ⟨[(1, kH 0), (2, kH 1), (3, kH 2), (4, kP 3 0), (9, kB r16), (36, kB true)], [], [ob 5 l1, ob 5 l2, ob 5 l3, ⟨.blk, 40, 1, 2, .c [.wh 4, .wh 5]⟩, ow 55 l0_0, ow 55 l0_1]⟩ (aP g2 aN) ?_
   refine Vi (true) (fun _ => ?_) (fun hb => by cases hb)
   refine Vrs hT [] ⟨[(8, kB r16)], [], []⟩ ?_
   refine Vc [] [] (lOne_R r16) (W_ret ?_)
   exact ⟨.inl rfl, by cases h; rfl⟩
  ·replace h := bif_f h g2
   rcases Bool.eq_false_or_eq_true (decide ((2 : Int) < ((l0_1.length : Nat) : Int))) with g3 | g3
   ·replace h := bif_t h g3
    refine Vg hT fN [(4, false), (10, true)] [] [0, 1, 2, 3, 4, 5] ⟨[(1, kH 0), (2, kH 1), (3, kH 2), (4, kP 3 0), (9, kB r16), (36, kB true)], [], [ob 5 l1, ob 5 l2, ob 5 l3, ⟨.blk, 40, 1, 2, .c [.wh 4, .wh 5]⟩, ow 55 l0_0, ow 55 l0_1]⟩ (aP g2 (aP g3 aN)) ?_
    refine Vi (true) (fun _ => ?_) (fun hb => by cases hb)
    refine Vrs hT [] ⟨[(8, kB r16)], [], []⟩ ?_
    refine Vc [] [] (lOne_R r16) (W_ret ?_)
    exact ⟨.inl rfl, by cases h; rfl⟩
   ·replace h := bif_f h g3
    rcases Bool.eq_false_or_eq_true (decide ((300 : Int) < ((l2.length : Nat) : Int))) with g4 | g4
    ·replace h := bif_t h g4
     refine Vg hT fN [(4, false), (10, false), (15, true)] [] [0, 1, 2, 3, 4, 5] ⟨[(1, kH 0), (2, kH 1), (3, kH 2), (4, kP 3 0), (9, kB r16), (36, kB true)], [], [ob 5 l1, ob 5 l2, ob 5 l3, ⟨.blk, 40, 1, 2, .c [.wh 4, .wh 5]⟩, ow 55 l0_0, ow 55 l0_1]⟩ (aP g2 (aP g3 (aP g4 aN))) ?_
     refine Vi (true) (fun _ => ?_) (fun hb => by cases hb)
     refine Vrs hT [] ⟨[(8, kB r16)], [], []⟩ ?_
     refine Vc [] [] (lOne_R r16) (W_ret ?_)
     exact ⟨.inl rfl, by cases h; rfl⟩
    ·replace h := bif_f h g4
     refine Vg hT fN [(4, false), (10, false), (15, false)] [] [0, 1, 2, 3, 4, 5] ⟨[(1, kH 0), (2, kH 1), (3, kH 2), (4, kP 3 0), (9, kB r16), (36, kB (decide ((300 : Int) < ((l3.length : Nat) : Int))))], [], [ob 5 l1, ob 5 l2, ob 5 l3, ⟨.blk, 40, 1, 2, .c [.wh 4, .wh 5]⟩, ow 55 l0_0, ow 55 l0_1]⟩ (aP g2 (aP g3 (aP g4 aN))) ?_
     refine Vi ((decide ((300 : Int) < ((l3.length : Nat) : Int)))) (fun g15 => ?_) (fun g15 => ?_)
     ·replace h := bif_t h g15
      refine Vrs hT [] ⟨[(8, kB r16)], [], []⟩ ?_
      refine Vc [] [] (lOne_R r16) (W_ret ?_)
      exact ⟨.inl rfl, by cases h; rfl⟩
     ·replace h := bif_f h g15
      refine W_skip ?_
      obtain ⟨r39, g5, h⟩ := bind_some' h
      refine Vgs hT (fT 1 (kcut_ok n r39) fN) [] [] [0, 1, 2, 3, 4, 5] ⟨[(1, .c (.sl 0 0 r39.2)), (2, kH 1), (3, kH 2), (4, kP 3 0), (9, kB r16)], [], [ob 5 l1, ob 5 l2, ob 5 l3, ⟨.blk, 40, 1, 2, .c [.wh 4, .wh 5]⟩, ow 55 l0_0, ow 55 l0_1]⟩ (aP g5 aN) ?_
      obtain ⟨r43, g6, h⟩ := bind_some' h
      refine Vgs hT (fI 3 (kVerify_ok n r43) hI fN) [] [] [0, 1, 2, 3, 4, 5] ⟨[(1, .c (.sl 0 0 r39.2)), (2, kH 1), (3, kH 2), (4, kP 3 0), (9, kB r16), (10, kE 34 r43)], [], [ob 5 l1, ob 5 l2, ob 5 l3, ⟨.blk, 40, 1, 2, .c [.wh 4, .wh 5]⟩, ow 55 l0_0, ow 55 l0_1]⟩ (aP g6 aN) ?_
      obtain ⟨r47, g7, h⟩ := bind_some' h
      refine Vgs hT (fI 3 (kVerify_ok n r47) hI fN) [] [] [1, 2, 3, 4, 5] ⟨[(2, kH 0), (3, kH 1), (4, kP 2 0), (9, kB r16), (10, kE 34 r43), (11, kE 34 r47)], [], [ob 5 l2, ob 5 l3, ⟨.blk, 40, 1, 2, .c [.wh 3, .wh 4]⟩, ow 55 l0_0, ow 55 l0_1]⟩ (aP g7 aN) ?_
      refine W_seq ?_
      refine W_seq ?_
      rcases Bool.eq_false_or_eq_true (!((r43).isNone)) with g8 | g8
      ·replace h := bif_t h g8
       refine Vg hT fN [(2, true)] [] [0, 1, 2, 3, 4] ⟨[(2, kH 0), (3, kH 1), (4, kP 2 0), (9, kB r16), (53, kB true)], [], [ob 5 l2, ob 5 l3, ⟨.blk, 40, 1, 2, .c [.wh 3, .wh 4]⟩, ow 55 l0_0, ow 55 l0_1]⟩ (aP g8 aN) ?_
       refine Vi (true) (fun _ => ?_) (fun hb => by cases hb)
       refine Vrs hT [] ⟨[(8, kB r16)], [], []⟩ ?_
       refine Vc [] [] (lOne_R r16) (W_ret ?_)
       exact ⟨.inl rfl, by cases h; rfl⟩
      ·replace h := bif_f h g8
       refine Vg hT fN [(2, false)] [] [0, 1, 2, 3, 4] ⟨[(2, kH 0), (3, kH 1), (4, kP 2 0), (9, kB r16), (53, kB (!((r47).isNone)))], [], [ob 5 l2, ob 5 l3, ⟨.blk, 40, 1, 2, .c [.wh 3, .wh 4]⟩, ow 55 l0_0, ow 55 l0_1]⟩ (aP g8 aN) ?_
       refine Vi ((!((r47).isNone))) (fun g14 => ?_) (fun g14 => ?_)
       ·replace h := bif_t h g14
        refine Vrs hT [] ⟨[(8, kB r16)], [], []⟩ ?_
        refine Vc [] [] (lOne_R r16) (W_ret ?_)
        exact ⟨.inl rfl, by cases h; rfl⟩
       ·replace h := bif_f h g14
        refine W_skip ?_
        obtain ⟨r61, g9, h⟩ := bind_some' h
        refine Vgs hT (fT 5 (qPower_ok n r61) fN) [] [] [1, 2, 3, 4, 5] ⟨[(3, kH 0), (4, kP 1 0), (9, kB r16), (12, kH 4), (13, kB r61.2.2)], [], [ob 5 l3, ⟨.blk, 40, 1, 2, .c [.wh 2, .wh 3]⟩, ow 55 l0_0, ow 55 l0_1, ⟨.row, 5, 1, r61.2.1, .b r61.1⟩]⟩ (aP g9 aN) ?_
        obtain ⟨r70, g10, h⟩ := bind_some' h
        refine Vgs hT (fT 5 (qPower_ok n r70) fN) [] [] [4, 5] ⟨[(9, kB r16), (12, kH 0), (13, kB r61.2.2), (14, kH 1), (15, kB r70.2.2)], [], [⟨.row, 5, 1, r61.2.1, .b r61.1⟩, ⟨.row, 5, 1, r70.2.1, .b r70.1⟩]⟩ (aP g10 aN) ?_
        refine W_seq ?_
        rcases Bool.eq_false_or_eq_true r16 with g11 | g11
        ·replace h := bif_t h g11
         rcases Bool.eq_false_or_eq_true r61.2.2 with g12 | g12
         ·replace h := bif_t h g12
          rcases Bool.eq_false_or_eq_true r70.2.2 with g13 | g13
          ·replace h := bif_t h g13
           refine Vg hT fN [(1, true), (4, true), (7, true)] [] [] ⟨[(8, kB (r61.1 == r70.1))], [], []⟩ (aP g11 (aP g12 (aP g13 aN))) ?_
           refine Vc [] [] (lOne_R (r61.1 == r70.1)) (W_ret ?_)
           exact ⟨.inl rfl, by cases h; rfl⟩
          ·replace h := bif_f h g13
           refine Vg hT fN [(1, true), (4, true), (7, false)] [] [] ⟨[(8, kB false)], [], []⟩ (aP g11 (aP g12 (aP g13 aN))) ?_
           refine Vc [] [] (lOne_R false) (W_ret ?_)
           exact ⟨.inl rfl, by cases h; rfl⟩
         ·replace h := bif_f h g12
          refine Vg hT fN [(1, true), (4, false)] [] [] ⟨[(8, kB false)], [], []⟩ (aP g11 (aP g12 aN)) ?_
          refine Vc [] [] (lOne_R false) (W_ret ?_)
          exact ⟨.inl rfl, by cases h; rfl⟩
        ·replace h := bif_f h g11
         refine Vg hT fN [(1, false)] [] [] ⟨[(8, kB false)], [], []⟩ (aP g11 aN) ?_
         refine Vc [] [] (lOne_R false) (W_ret ?_)
         exact ⟨.inl rfl, by cases h; rfl⟩
 ·rintro e s' ⟨he, rfl⟩
  refine ⟨he, fun a' w' hr => ?_⟩
  exact retS_ok tabO_dvone hr (rs := [.tmp 8]) rfl (objs := []) (by kernel_rfl)
end Go.Proofs.YthichmclbiggmaaDoor
end
section
namespace Go.Sx
open Go Go.RowKit Go.Ch Go.Proofs.YthichmclbiggmaaDoor
theorem lOne_is (N E : List UInt32) (b0 x y : List UInt8) : lOne N64 N E b0 x y = some true := by
 have hn := hN64
 unfold lOne
 rw [kup_is, Option.bind_some]
 by_cases hN : N.length ≤ 70
 ·rw [ite_f (by simp; omega)]
  by_cases hE : E.length ≤ 2
  ·rw [ite_f (by simp; omega)]
   by_cases hx : x.length ≤ 300
   ·rw [ite_f (by simp; omega)]
    by_cases hy : y.length ≤ 300
    ·obtain ⟨m, h1, h2⟩ := kcut_is N64 b0 300
     rw [ite_f (by simp; omega), show (300 : Int) = ((300 : Nat) : Int) from rfl, h1, Option.bind_some]
     dsimp only
     generalize (b0.drop 0).take m = b at h2
     rw [kVerify_is hn (by omega) (by omega) (by omega) (by omega), Option.bind_some, kVerify_is hn (by omega) (by omega) (by omega) (by omega), Option.bind_some]
     cases hP : okP (nV N) (nV E) with
     | false => rfl
     | true =>
      rw [if_pos rfl, if_pos rfl]
      cases hvx : verS (nV N) (nV E) b x with
      | false => rfl
      | true =>
       cases hvy : verS (nV N) (nV E) b y with
       | false => rfl
       | true =>
        unfold verS at hvx hvy
        simp only [Bool.and_eq_true, beq_iff_eq] at hvx hvy
        rw [ite_f (by rfl), ite_f (by rfl), qPower_is hn (by omega) (by omega) (by omega), Option.bind_some, qPower_is hn (by omega) (by omega) (by omega), Option.bind_some, hvx.1, hvy.1, hvx.2, hvy.2]
        simp
    ·rw [ite_t (by simp; omega)]
   ·rw [ite_t (by simp; omega)]
  ·rw [ite_t (by simp; omega)]
 ·rw [ite_t (by simp; omega)]
end Go.Sx
end
section
namespace Go.Sx
open Go Go.RowKit Go.Ch Go.Proofs.YthichmclbiggmaaDoor
end Go.Sx
namespace Go.Proofs.YthichmclbiggmaaDoor
open Go.RowKit Go.Ch Go.Sx
theorem rsaOne_c (w : World) (B0_0 : Nat) (v0_0 : Value) (l0_0 : List UInt32) (hv0_0 : Sl w B0_0 v0_0 (l0_0.map w32)) (B0_1 : Nat) (v0_1 : Value) (l0_1 : List UInt32) (hv0_1 : Sl w B0_1 v0_1 (l0_1.map w32)) (B1 : Nat) (v1 : Value) (l1 : List UInt8) (hv1 : Sl w B1 v1 (l1.map bU)) (B2 : Nat) (v2 : Value) (l2 : List UInt8) (hv2 : Sl w B2 v2 (l2.map bU)) (B3 : Nat) (v3 : Value) (l3 : List UInt8) (hv3 : Sl w B3 v3 (l3.map bU)) (hG : GK w) :
  Calls Tryd.prog 5 #[.agg #[v0_0, v0_1], v1, v2, v3] w (Ret fun v' w' => Ext w w' ∧ v' = .bool true) := by
 obtain ⟨p0_0, a0_0, b0_0⟩ := in_w hv0_0 55
 obtain ⟨p0_1, a0_1, b0_1⟩ := in_w hv0_1 55
 obtain ⟨p1, a1, b1⟩ := in_b hv1 5
 obtain ⟨p2, a2, b2⟩ := in_b hv2 5
 obtain ⟨p3, a3, b3⟩ := in_b hv3 5
 exact law_of (lOne_ok N64 true) (args := [.g 2 (.c [.wh 0, .wh 1]), .c (.wh 2), .c (.wh 3), .c (.wh 4)]) (H := [⟨.ro false, 55, 1, l0_0.length, .w l0_0⟩, ⟨.ro false, 55, 1, l0_1.length, .w l0_1⟩, ⟨.ro false, 5, 1, l1.length, .b l1⟩, ⟨.ro false, 5, 1, l2.length, .b l2⟩, ⟨.ro false, 5, 1, l3.length, .b l3⟩]) (ρ := plL [p0_0, p0_1, p1, p2, p3]) (vals := [.agg #[v0_0, v0_1], v1, v2, v3]) rfl (allP_cons.2 ⟨lOne_is l0_0 l0_1 l1 l2 l3, allP_nil⟩) hG (hpL (ps := [p0_0, p0_1, p1, p2, p3]) (F2.cons b0_0 (F2.cons b0_1 (F2.cons b1 (F2.cons b2 (F2.cons b3 F2.nil)))))) (F2.cons ⟨[v0_0, v0_1], (F2.cons a0_0 (F2.cons a0_1 F2.nil)), rfl, rfl⟩ (F2.cons a1 (F2.cons a2 (F2.cons a3 F2.nil))))
end Go.Proofs.YthichmclbiggmaaDoor
end
section
namespace Go.Ch
open Go.ChangeShapes Go.WideShapes Go.RowKit
theorem words_of_ints' {zs : List Int} (h : ∀ z ∈ zs, (Lit.int .u32 z).wf = true) : ∃ ws : List UInt32, zs.map (Value.int .u32) = ws.map w32 := by
 induction zs with
 | nil => exact ⟨[], rfl⟩
 | cons z zs ih =>
  obtain ⟨ws, h1⟩ := ih (fun y hy => h y (by simp [hy]))
  have h2 := h z (by simp)
  simp [Lit.wf, IntKind.min, IntKind.max, IntKind.signed, IntKind.bits] at h2
  refine ⟨UInt32.ofNat z.toNat :: ws, ?_⟩
  rw [List.map_cons, List.map_cons, h1]
  congr 1
  unfold w32
  congr 1
  simp
  omega
def natsB (P : Program) (t : TypeId) (n : Nat) : Bool := (match P.underlying t with
 | some (.struct fs) => fs.size == n && (List.range n).all fun i => match fs[i]? with
  | some f => f.offset == i && (match P.underlying f.type with | some (.slice e) => (match P.underlying e with | some (.int .u32) => P.cellsOf e == 1 | _ => false) | _ => false) && P.cellsOf f.type == 1
  | none => false
 | _ => false) && P.cellsOf t == n
theorem open_nats {H : Type} {enc : TypeId × Value → H} {P : Program} {W : World} {t : TypeId} {n : Nat} {v : Value} {d : DataW H} {p : List MemPlace} {base : Nat} {held : Bool} (hb : natsB P t n = true)
  (hok : Value.okWide P W .any base t v) (h : DataW.Trod enc P W 0 (fun _ => true) held t v d p) : ∃ l : List Value, l.length = n ∧ v = .agg l.toArray ∧ ∀ i, i < n → ∃ c ws, l[i]? = some c ∧ Sl W W.heap.size c (List.map w32 ws) := by
 unfold natsB at hb
 split at hb
 ·rename_i fs ht
  simp only [Bool.and_eq_true, beq_iff_eq, List.all_eq_true, List.mem_range] at hb
  obtain ⟨⟨hfs, hfa⟩, hct⟩ := hb
  obtain ⟨cs, rfl, hsz, _⟩ : ∃ cs, v = .agg cs ∧ cs.size = P.cellsOf t ∧ Row.okWide P W .any base t cs := by
   simpa [Value.okWide, ht] using hok
  obtain ⟨fuel, hf⟩ := h
  obtain ⟨xs, m, _, _, hl, hxl, hel⟩ := DataW.trod_struct ht hf
  obtain ⟨l⟩ := cs
  have hlen : l.length = n := by rw [← hct]; exact hsz
  refine ⟨l, hlen, rfl, fun i hi => ?_⟩
  have h0 := hfa i hi
  split at h0
  ·rename_i f hfi
   simp only [Bool.and_eq_true, beq_iff_eq] at h0
   obtain ⟨⟨ho, hu⟩, hc⟩ := h0
   split at hu
   ·rename_i e hue
    split at hu
    ·rename_i hee
     simp only [beq_iff_eq] at hu
     have h1 := hel i f hfi
     rw [hc, ho] at h1
     rw [List.getElem?_eq_getElem (show i < xs.length by rw [hxl, hfs]; exact hi)] at h1
     obtain ⟨a, ha⟩ : ∃ a, l[i]? = some a := ⟨l[i]'(by omega), List.getElem?_eq_getElem (by omega)⟩
     have hone : (l.drop i).take 1 = [a] := by
      obtain ⟨hi2, rfl⟩ := List.getElem?_eq_some_iff.1 ha
      rw [List.drop_eq_getElem_cons hi2]; rfl
     have h1' : DataW.trod enc P W 0 (fun _ => true) held m f.type ((l.drop i).take 1) = _ := h1
     rw [hone] at h1'
     have : ∃ ws, Sl W W.heap.size a (List.map w32 ws) := by
      rcases open_ints hue hee hu h1' with ⟨hcs, _⟩ | ⟨x, l, c, zs, hcs, _, hl, hm, hz, _, hcell, hwz⟩
      ·simp [Value.cells] at hcs
       subst hcs
       exact ⟨[], (sl_of_row (k := .u32) (w := W) (zs := []) (.inl ⟨rfl, rfl, rfl, rfl⟩)).1⟩
      ·simp [Value.cells] at hcs
       subst hcs
       obtain ⟨h1, h2⟩ := sl_of_row (k := .u32) (w := W) (zs := zs) (.inr ⟨_, rfl, hl, hm, by simpa using hz, hcell, hwz⟩)
       obtain ⟨l, hl⟩ := words_of_ints' h2
       exact ⟨l, by rw [← hl]; exact h1⟩
     obtain ⟨ws, hws⟩ := this
     exact ⟨a, ws, ha, hws⟩
    ·cases hu
   ·cases hu
  ·cases h0
 ·simp at hb
theorem open_nats2 {H : Type} {enc : TypeId × Value → H} {P : Program} {W : World} {t : TypeId} {v : Value} {d : DataW H} {p : List MemPlace} {base : Nat} {held : Bool} (hb : natsB P t 2 = true)
  (hok : Value.okWide P W .any base t v) (h : DataW.Trod enc P W 0 (fun _ => true) held t v d p) : ∃ (a b : Value) (x y : List UInt32), v = .agg #[a, b] ∧ Sl W W.heap.size a (x.map w32) ∧ Sl W W.heap.size b (y.map w32) := by
 obtain ⟨l, hl, rfl, hk⟩ := open_nats hb hok h
 match l, hl with
 | [a, b], _ =>
  obtain ⟨_, x, h0, hx⟩ := hk 0 (by decide)
  obtain ⟨_, y, h1, hy⟩ := hk 1 (by decide)
  simp at h0 h1
  subst h0; subst h1
  exact ⟨a, b, x, y, rfl, hx, hy⟩
end Go.Ch
end
