import Derived.Test.YtobfglafchoipaaZ3
import Derived.Test.YtobfglafchoipaaProg
import Derived.WalkKit
import Derived.Lib.Walk
import Derived.Lib.Strings
import Derived.Lib.Bytealg
import Derived.Lib.BytesEntry
import Derived.BigCall
set_option linter.unusedVariables false
set_option linter.unusedSimpArgs false
section
namespace Go.Sx
open Go Go.RowKit Go.Ch Go.Proofs.Ytobfglafchoipaa
def cnt : Nat → Nat → List UInt8
 | 0, _ => []
 | f + 1, m => if m = 0 then [] else cnt f (m / 128) ++ [UInt8.ofNat (m % 128 + 128)]
def gN (m : Nat) : List UInt8 := cnt 5 (m / 128) ++ [UInt8.ofNat (m % 128)]
theorem cnt_0 (f : Nat) : cnt f 0 = [] := by cases f <;> simp [cnt]
theorem cnt_up : ∀ (f m : Nat), m < 128 ^ f → cnt (f + 1) m = cnt f m
 | 0, m, h => by
  obtain rfl : m = 0 := by simpa using h
  rfl
 | f + 1, m, h => by
  rw [cnt]
  conv => rhs; rw [cnt]
  by_cases h0 : m = 0
  ·rw [if_pos h0, if_pos h0]
  ·rw [if_neg h0, if_neg h0, cnt_up f (m / 128) (Nat.div_lt_of_lt_mul (by rw [Nat.pow_succ] at h; omega))]
theorem gN_small {d : Nat} (hd : d < 128) : gN d = [UInt8.ofNat d] := by
 unfold gN; rw [show d / 128 = 0 by omega, show d % 128 = d by omega, cnt_0]; rfl
theorem cnt_len : ∀ (f m : Nat), (cnt f m).length ≤ f
 | 0, _ => Nat.le_refl _
 | f + 1, m => by
  rw [cnt]; split
  ·simp
  ·have := cnt_len f (m / 128); simp; omega
theorem or128 : ∀ k : Fin 128, (UInt8.ofNat k.1 ||| 128) = UInt8.ofNat (k.1 + 128) := by decide
theorem low7 (n : UInt32) : (n &&& 127).toUInt8 = UInt8.ofNat (n.toNat % 128) := by
 apply UInt8.toNat_inj.1
 rw [UInt32.toNat_toUInt8, UInt32.toNat_and, show (127 : UInt32).toNat = 2 ^ 7 - 1 from rfl, Nat.and_two_pow_sub_one_eq_mod]
 simp
theorem shr7n (n : UInt32) : (n >>> 7).toNat = n.toNat / 128 := by
 rw [UInt32.toNat_shiftRight, show (7 : UInt32).toNat % 32 = 7 from rfl, Nat.shiftRight_eq_div_pow]
theorem grpT_is : ∀ (f : Nat) (n : UInt32), (grpT f n).reverse = cnt f n.toNat
 | 0, _ => rfl
 | f + 1, n => by
  rw [grpT, cnt]
  by_cases h : n = 0
  ·subst h; rfl
  ·have h' : ¬ n.toNat = 0 := fun e => h (UInt32.toNat_inj.1 e)
   rw [if_neg h, if_neg h', List.reverse_cons, grpT_is f, shr7n, low7, or128 ⟨n.toNat % 128, Nat.mod_lt _ (by decide)⟩]
theorem grp_is (n : UInt32) : grp n = gN n.toNat := by
 unfold grp gN
 rw [List.reverse_cons, grpT_is, shr7n, low7]
theorem grp_len (n : UInt32) : (grp n).length ≤ 6 := by rw [grp_is]; unfold gN; have := cnt_len 5 (n.toNat / 128); simp; omega
theorem set_last {α : Type} (l : List α) (x y z : α) : (l ++ [x]).set ((l ++ [x]).length - 1) y = l ++ [y] ∧ (l ++ [x]).getD ((l ++ [x]).length - 1) z = x := by
 constructor
 ·rw [List.length_append, show l.length + [x].length - 1 = l.length from rfl, List.set_append_right _ _ (Nat.le_refl _), Nat.sub_self]; rfl
 ·rw [List.length_append, show l.length + [x].length - 1 = l.length from rfl, List.getD_eq_getElem?_getD, List.getElem?_append_right (Nat.le_refl _), Nat.sub_self]; rfl
theorem rgroup_is : ∀ (f n : Nat) (a : UInt32), a.toNat < 128 ^ f → f < n → rgroup n a = some (gN a.toNat)
 | f, 0, _, _, h => by omega
 | 0, n + 1, a, ha, _ => by
  have h0 : a.toNat = 0 := by simpa using ha
  obtain rfl : a = 0 := UInt32.toNat_inj.1 h0
  rfl
 | f + 1, n + 1, a, ha, hf => by
  rw [rgroup]
  by_cases h : a < 128
  ·have h' : a.toNat < 128 := by rw [UInt32.lt_iff_toNat_lt] at h; exact h
   rw [ite_t (decide_eq_true h), gN_small h']
   congr 2
  ·have h' : 128 ≤ a.toNat := by rw [UInt32.lt_iff_toNat_lt] at h; exact Nat.le_of_not_lt h
   have e : (a / 128).toNat = a.toNat / 128 := by rw [UInt32.toNat_div]; rfl
   rw [ite_f (decide_eq_false h), gd_pos (by decide), rgroup_is f n (a / 128) (by rw [e]; exact Nat.div_lt_of_lt_mul (by rw [Nat.pow_succ] at ha; omega)) (by omega), Option.bind_some, e]
   have hl : (gN (a.toNat / 128)).length ≤ 6 := by unfold gN; have := cnt_len 5 (a.toNat / 128 / 128); simp; omega
   have hp : 0 < (gN (a.toNat / 128)).length := by unfold gN; simp
   have ei : ((((gN (a.toNat / 128)).length : Nat) : Int) - 1).toNat = (gN (a.toNat / 128)).length - 1 := by omega
   rw [gd_pos (okI64 (by omega) (by omega)), gd_pos (okI64 (by omega) (by omega)), gd_pos (by omega), gd_pos (by omega), gd_pos (by omega), gd_pos (by omega), gd_pos (by decide), gd_pos (by unfold rmB; omega), ei]
   have hdiv : a.toNat / 128 / 128 * 128 + a.toNat / 128 % 128 = a.toNat / 128 := by omega
   have ha32 : a.toNat < 4294967296 := a.toNat_lt
   have hs := set_last (cnt 5 (a.toNat / 128 / 128)) (UInt8.ofNat (a.toNat / 128 % 128)) (UInt8.ofNat (a.toNat / 128 % 128) + 128) 0
   unfold gN
   rw [hs.2, hs.1]
   have e2 : UInt8.ofNat (a.toNat / 128 % 128) + 128 = UInt8.ofNat (a.toNat / 128 % 128 + 128) := by
    apply UInt8.toNat_inj.1; rw [UInt8.toNat_add]; simp
   rw [e2]
   have e3 : cnt 5 (a.toNat / 128 / 128) ++ [UInt8.ofNat (a.toNat / 128 % 128 + 128)] = cnt 5 (a.toNat / 128) := by
    conv => rhs; rw [cnt, if_neg (by omega)]
    rw [cnt_up 4 _ (by omega)]
   rw [e3]
   congr 3
theorem rgroup_g {n : Nat} (hn : 6 ≤ n) (a : UInt32) : rgroup n a = some (grp a) := by
 rw [grp_is]; exact rgroup_is 5 n a (by have := a.toNat_lt; omega) (by omega)
def oidOk (l : List UInt32) : Bool := decide (2 ≤ l.length) && decide (l.length ≤ 16) && (decide (l.getD 0 0 < 2) && decide (l.getD 1 0 < 40) || l.getD 0 0 == 2 && decide ((l.getD 1 0).toNat ≤ 4294967215))
theorem u32_3 (x : UInt32) : x < 2 ∨ x = 2 ∨ 2 < x := by
 rw [UInt32.lt_iff_toNat_lt, UInt32.lt_iff_toNat_lt, ← UInt32.toNat_inj]; show x.toNat < 2 ∨ x.toNat = 2 ∨ 2 < x.toNat; omega
theorem rOid_is (n : Nat) (l : List UInt32) : rOid n l = some (oidOk l) := by
 unfold rOid oidOk
 by_cases h1 : l.length < 2
 ·rw [ite_t (decide_eq_true (by omega)), decide_eq_false (show ¬ 2 ≤ l.length by omega)]; rfl
 ·rw [ite_f (decide_eq_false (by omega)), decide_eq_true (show 2 ≤ l.length by omega)]
  by_cases h2 : 16 < l.length
  ·rw [ite_t (decide_eq_true (by omega)), decide_eq_false (show ¬ l.length ≤ 16 by omega)]; rfl
  ·rw [ite_f (decide_eq_false (by omega)), decide_eq_true (show l.length ≤ 16 by omega), gd_pos (by omega), gd_pos (by omega)]
   rcases u32_3 (l.getD 0 0) with h | h | h
   ·have h' : ¬ 2 < l.getD 0 0 := fun h2 => UInt32.lt_irrefl _ (UInt32.lt_trans h h2)
    have h3 : (l.getD 0 0 == 2) = false := beq_eq_false_iff_ne.2 fun e => UInt32.lt_irrefl _ (e ▸ h)
    rw [ite_f (decide_eq_false h'), gd_pos (by omega), gd_pos (by omega), ite_t (decide_eq_true h), gd_pos (by omega), gd_pos (by omega), decide_eq_true h, h3]; simp
   ·rw [h, ite_f (by decide), gd_pos (by omega), gd_pos (by omega), ite_f (by decide), gd_pos (by omega), gd_pos (by omega)]
    simp [UInt32.le_iff_toNat_le]
   ·have h' : ¬ l.getD 0 0 < 2 := fun h2 => UInt32.lt_irrefl _ (UInt32.lt_trans h h2)
    have h3 : (l.getD 0 0 == 2) = false := beq_eq_false_iff_ne.2 fun e => UInt32.lt_irrefl _ (e ▸ h)
    rw [ite_t (decide_eq_true h), decide_eq_false h', h3]; rfl
theorem pident_is (n : Nat) (l : List UInt32) : pident n l = some (oidOk l) := by
 unfold pident oidOk
 by_cases h1 : l.length < 2
 ·rw [ite_t (decide_eq_true (by omega)), decide_eq_false (show ¬ 2 ≤ l.length by omega)]; rfl
 ·rw [ite_f (decide_eq_false (by omega)), decide_eq_true (show 2 ≤ l.length by omega)]
  by_cases h2 : 16 < l.length
  ·rw [ite_t (decide_eq_true (by omega)), decide_eq_false (show ¬ l.length ≤ 16 by omega)]; rfl
  ·rw [ite_f (decide_eq_false (by omega)), decide_eq_true (show l.length ≤ 16 by omega), gd_pos (by omega), gd_pos (by omega)]
   rcases u32_3 (l.getD 0 0) with h | h | h
   ·have h' : ¬ 2 < l.getD 0 0 := fun h2 => UInt32.lt_irrefl _ (UInt32.lt_trans h h2)
    have h3 : (l.getD 0 0 == 2) = false := beq_eq_false_iff_ne.2 fun e => UInt32.lt_irrefl _ (e ▸ h)
    rw [ite_f (decide_eq_false h'), gd_pos (by omega), gd_pos (by omega), ite_t (decide_eq_true h), gd_pos (by omega), gd_pos (by omega), decide_eq_true h, h3]; simp
   ·rw [h, ite_f (by decide), gd_pos (by omega), gd_pos (by omega), ite_f (by decide), gd_pos (by omega), gd_pos (by omega)]
    have e : (((l.getD 1 0).toUInt64 + 80 : UInt64) < 4294967296) ↔ (l.getD 1 0).toNat ≤ 4294967215 := by
     rw [UInt64.lt_iff_toNat_lt, UInt64.toNat_add, UInt32.toNat_toUInt64]
     have := (l.getD 1 0).toNat_lt
     show ((l.getD 1 0).toNat + 80) % 2 ^ 64 < 4294967296 ↔ _
     omega
    rw [show (decide (((l.getD 1 0).toUInt64 + 80 : UInt64) < 4294967296)) = decide ((l.getD 1 0).toNat ≤ 4294967215) from decide_eq_decide.2 e]
    simp
   ·have h' : ¬ l.getD 0 0 < 2 := fun h2 => UInt32.lt_irrefl _ (UInt32.lt_trans h h2)
    have h3 : (l.getD 0 0 == 2) = false := beq_eq_false_iff_ne.2 fun e => UInt32.lt_irrefl _ (e ▸ h)
    rw [ite_t (decide_eq_true h), decide_eq_false h', h3]; rfl
theorem oidOk_len {l : List UInt32} (h : oidOk l = true) : 2 ≤ l.length ∧ l.length ≤ 16 := by
 unfold oidOk at h
 simp only [Bool.and_eq_true, decide_eq_true_eq] at h
 exact ⟨h.1.1, h.1.2⟩
def grps (l : List UInt32) : List UInt8 := (l.map grp).flatten
theorem grps_cons (x : UInt32) (l : List UInt32) : grps (x :: l) = grp x ++ grps l := rfl
theorem grps_len : ∀ l : List UInt32, (grps l).length ≤ 6 * l.length
 | [] => Nat.le_refl _
 | x :: l => by rw [grps_cons, List.length_append, List.length_cons]; have := grp_len x; have := grps_len l; omega
def bodyOf (l : List UInt32) : List UInt8 := grp (40 * l.getD 0 0 + l.getD 1 0) ++ grps (l.drop 2)
theorem pOid_l1_is (n : Nat) (l : List UInt32) (hl : 2 ≤ l.length) (h16 : l.length ≤ 16) : ∀ (m i fu : Nat) (acc : List UInt8), i + m = l.length - 2 → m < fu → acc.length ≤ 1000 - 6 * m → pOid_l1 n l fu acc (i : Int) = some (acc ++ grps (l.drop (2 + i)), none) := by
 intro m
 induction m with
 | zero =>
  intro i fu acc hi hf _
  cases fu with
  | zero => omega
  | succ fu => rw [pOid_l1, ite_f (decide_eq_false (by omega)), List.drop_eq_nil_of_le (by omega)]; simp [grps]
 | succ m ih =>
  intro i fu acc hi hf ha
  cases fu with
  | zero => omega
  | succ fu =>
   have e : ((l.drop 2).take (l.length - 2)).getD i 0 = l.getD (2 + i) 0 := by
    rw [List.take_of_length_le (by simp)]
    simp [List.getD_eq_getElem?_getD]
   have hg := grp_len (l.getD (2 + i) 0)
   rw [pOid_l1, ite_t (decide_eq_true (by omega)), gd_pos (by omega), gd_pos (by omega), Int.toNat_natCast, e, gd_pos (by unfold rmB; omega), gd_pos (okI64 (by omega) (by omega))]
   have := ih (i + 1) fu (acc ++ grp (l.getD (2 + i) 0)) (by omega) (by omega) (by rw [List.length_append]; omega)
   rw [drop_at (z := 0) (show 2 + i < l.length by omega), grps_cons, ← List.append_assoc]
   exact this
theorem pOid_is {n : Nat} (hn : 100 ≤ n) (l : List UInt32) : pOid n l = some (if oidOk l then (bodyOf l, none) else ([], some 1)) := by
 unfold pOid
 rw [pident_is, Option.bind_some]
 cases h : oidOk l with
 | false => rfl
 | true =>
  obtain ⟨h2, h16⟩ := oidOk_len h
  rw [ite_f (by rfl), gd_pos (by omega), gd_pos (by omega), gd_pos (by omega), gd_pos (by omega), gd_pos (by omega), gd_pos (by omega), if_pos rfl]
  have hg := grp_len (40 * l.getD 0 0 + l.getD 1 0)
  exact pOid_l1_is n l h2 h16 (l.length - 2) 0 n _ (by omega) (by omega) (by omega)
theorem rOidBody_l1_is {n : Nat} (hn : 6 ≤ n) (l : List UInt32) (h16 : l.length ≤ 1000) : ∀ (m i fu : Nat) (acc : List UInt8), 2 + i + m = l.length → m < fu → acc.length ≤ 10000 - 6 * m → rOidBody_l1 n l fu acc ((2 + i : Nat) : Int) = some (acc ++ grps (l.drop (2 + i))) := by
 intro m
 induction m with
 | zero =>
  intro i fu acc hi hf _
  cases fu with
  | zero => omega
  | succ fu => rw [rOidBody_l1, ite_f (decide_eq_false (by omega)), List.drop_eq_nil_of_le (by omega)]; simp [grps]
 | succ m ih =>
  intro i fu acc hi hf ha
  cases fu with
  | zero => omega
  | succ fu =>
   have hg := grp_len (l.getD (2 + i) 0)
   rw [rOidBody_l1, ite_t (decide_eq_true (by omega)), gd_pos (by omega), gd_pos (by omega), Int.toNat_natCast, rgroup_g hn, Option.bind_some, gd_pos (by unfold rmB; omega), gd_pos (okI64 (by omega) (by omega))]
   have := ih (i + 1) fu (acc ++ grp (l.getD (2 + i) 0)) (by omega) (by omega) (by rw [List.length_append]; omega)
   rw [drop_at (z := 0) (show 2 + i < l.length by omega), grps_cons, ← List.append_assoc]
   exact this
theorem rOidBody_is {n : Nat} (hn : 2000 ≤ n) {l : List UInt32} (h2 : 2 ≤ l.length) (h16 : l.length ≤ 1000) : rOidBody n l = some (bodyOf l) := by
 unfold rOidBody
 have hg := grp_len (40 * l.getD 0 0 + l.getD 1 0)
 rw [gd_pos (by omega), gd_pos (by omega), gd_pos (by omega), gd_pos (by omega), rgroup_g (by omega), Option.bind_some]
 exact rOidBody_l1_is (by omega) l h16 (l.length - 2) 0 n _ (by omega) (by omega) (by omega)
abbrev oth : List UInt8 := [32, 39, 40, 41, 43, 44, 45, 46, 47, 58, 61, 63]
theorem loop_true (f : Nat → Int → Option Bool) (K : Option Bool) (hf : ∀ fu i, f (fu + 1) i = bif (decide (i < ((oth.length : Nat) : Int))) then gd (okI .i64 (i + 1)) (f fu (i + 1)) else K) : ∀ (m i fu : Nat), i + m = 12 → m < fu → f fu (i : Int) = K := by
 intro m
 induction m with
 | zero =>
  intro i fu hi hf'
  cases fu with
  | zero => omega
  | succ fu => rw [hf, ite_f (decide_eq_false (by show ¬ (i : Int) < 12; omega))]
 | succ m ih =>
  intro i fu hi hf'
  cases fu with
  | zero => omega
  | succ fu =>
   rw [hf, ite_t (decide_eq_true (by show (i : Int) < 12; omega)), gd_pos (okI64 (by omega) (by omega))]
   exact ih (i + 1) fu (by omega) (by omega)
theorem loop_any (f : Nat → Bool → Int → Option Bool) (K : Option Bool) (x : UInt8)
  (hf : ∀ fu p i, f (fu + 1) p i = bif (decide (i < ((oth.length : Nat) : Int))) then bif p then gd (okI .i64 (i + 1)) (f fu true (i + 1)) else gd (0 ≤ i) (gd (i < ((oth.length : Nat) : Int)) (gd (okI .i64 (i + 1)) (f fu (x == oth.getD i.toNat 0) (i + 1))))
   else bif (!p) then some false else K) : ∀ (m i fu : Nat) (p : Bool), i + m = 12 → m < fu → f fu p (i : Int) = if p || (oth.drop i).contains x then K else some false := by
 intro m
 induction m with
 | zero =>
  intro i fu p hi hf'
  cases fu with
  | zero => omega
  | succ fu =>
   obtain rfl : i = 12 := by omega
   rw [hf, ite_f (by rfl)]
   cases p <;> rfl
 | succ m ih =>
  intro i fu p hi hf'
  cases fu with
  | zero => omega
  | succ fu =>
   have hd : oth.drop i = oth.getD i 0 :: oth.drop (i + 1) := drop_at (by show i < 12; omega)
   rw [hf, ite_t (decide_eq_true (by show (i : Int) < 12; omega)), hd]
   cases p with
   | true =>
    rw [ite_t (by rfl), gd_pos (okI64 (by omega) (by omega))]
    have := ih (i + 1) fu true (by omega) (by omega)
    rw [Bool.true_or] at this ⊢
    exact this
   | false =>
    rw [ite_f (by rfl), gd_pos (by omega), gd_pos (by show (i : Int) < 12; omega), gd_pos (okI64 (by omega) (by omega)), Int.toNat_natCast]
    have := ih (i + 1) fu (x == oth.getD i 0) (by omega) (by omega)
    rw [List.contains_cons, Bool.false_or]
    exact this
theorem rText_l1_is {n : Nat} (hn : 100 ≤ n) {mk : UInt8} {a : List UInt8} (ha : a.length ≤ 100000) (hm : mk = 19 ∨ mk = 22) : ∀ (m i fu : Nat), i + m = a.length → m < fu → rText_l1 n mk a fu (i : Int) = some (!((a.drop i).any (if mk = 19 then prtN else hiB))) := by
 intro m
 induction m with
 | zero =>
  intro i fu hi hf
  cases fu with
  | zero => omega
  | succ fu => rw [rText_l1, ite_f (decide_eq_false (by omega)), List.drop_eq_nil_of_le (by omega)]; rfl
 | succ m ih =>
  intro i fu hi hf
  cases fu with
  | zero => omega
  | succ fu =>
   have hd := drop_at (l := a) (z := 0) (show i < a.length by omega)
   have hj : rText_j1 n mk a (i : Int) (rText_l1 n mk a fu) = some (!((a.drop (i + 1)).any (if mk = 19 then prtN else hiB))) := by
    unfold rText_j1
    rw [gd_pos (okI64 (by omega) (by omega))]
    exact ih (i + 1) fu (by omega) (by omega)
   rw [rText_l1, ite_t (decide_eq_true (by omega)), gd_pos (by omega), gd_pos (by omega), Int.toNat_natCast, hd, List.any_cons]
   generalize hx : a.getD i 0 = x
   have hx' : a.getD ((i : Nat) : Int).toNat 0 = x := by rw [Int.toNat_natCast]; exact hx
   generalize hK : rText_j1 n mk a (i : Int) (rText_l1 n mk a fu) = K at hj
   by_cases h128 : 128 ≤ x
   ·rw [ite_t (decide_eq_true h128)]
    have h1 : hiB x = true := decide_eq_true h128
    have h2 : prtN x = true := by
     have : ∀ i : Fin 256, 128 ≤ UInt8.ofNat i.1 → prtN (UInt8.ofNat i.1) = true := by decide +kernel
     have := this ⟨x.toNat, x.toNat_lt⟩
     simp only [UInt8.ofNat_toNat] at this
     exact this h128
    rcases hm with rfl | rfl
    ·rw [if_pos rfl, h2]; rfl
    ·rw [if_neg (by decide), h1]; rfl
   ·rw [ite_f (decide_eq_false h128)]
    rcases hm with rfl | rfl
    ·rw [ite_t (by rfl), if_pos rfl]
     rw [if_pos rfl] at hj
     have kT : ∀ (f : Nat → Int → Option Bool), (∀ fu i, f (fu + 1) i = bif (decide (i < ((oth.length : Nat) : Int))) then gd (okI .i64 (i + 1)) (f fu (i + 1)) else K) → prB x = true → f n 0 = some (!(prtN x || (a.drop (i + 1)).any prtN)) := fun f hf hp => by
      rw [show (0 : Int) = ((0 : Nat) : Int) from rfl, loop_true f K hf 12 0 n rfl (by omega), hj]
      unfold prtN at *; rw [hp]; rfl
     have kA : ∀ (f : Nat → Bool → Int → Option Bool) (p : Bool), (∀ fu p i, f (fu + 1) p i = bif (decide (i < ((oth.length : Nat) : Int))) then bif p then gd (okI .i64 (i + 1)) (f fu true (i + 1)) else gd (0 ≤ i) (gd (i < ((oth.length : Nat) : Int)) (gd (okI .i64 (i + 1)) (f fu (x == oth.getD i.toNat 0) (i + 1)))) else bif (!p) then some false else K) → prB x = (p || oth.contains x) → f n p 0 = some (!(prtN x || (a.drop (i + 1)).any prtN)) := fun f p hf hp => by
      rw [show (0 : Int) = ((0 : Nat) : Int) from rfl, loop_any f K x hf 12 0 n p rfl (by omega), List.drop_zero, ← hp]
      unfold prtN at *
      cases h : prB x with
      | true => rw [if_pos rfl, hj]; rfl
      | false => rfl
     have pe : prB x = (decide (97 ≤ x) && decide (x ≤ 122) || decide (65 ≤ x) && decide (x ≤ 90) || decide (48 ≤ x) && decide (x ≤ 57) || oth.contains x) := rfl
     by_cases h97 : 97 ≤ x
     ·rw [ite_t (decide_eq_true h97)]
      by_cases h122 : x ≤ 122
      ·rw [ite_t (decide_eq_true h122)]
       exact kT _ (fun fu i => by rw [← hK]; rfl) (by rw [pe, decide_eq_true h97, decide_eq_true h122]; rfl)
      ·rw [ite_f (decide_eq_false h122)]
       have h65 : 65 ≤ x := UInt8.le_trans (by decide) h97
       have h90 : ¬ x ≤ 90 := fun h => h122 (UInt8.le_trans h (by decide))
       have h48 : 48 ≤ x := UInt8.le_trans (by decide) h97
       have h57 : ¬ x ≤ 57 := fun h => h122 (UInt8.le_trans h (by decide))
       rw [ite_t (decide_eq_true h65), ite_f (decide_eq_false h90), ite_t (decide_eq_true h48)]
       exact kA _ _ (fun fu p i => by rw [← hK, ← hx]; rfl) (by rw [pe, decide_eq_false h122, decide_eq_false h90, decide_eq_true h48]; simp)
     ·rw [ite_f (decide_eq_false h97)]
      by_cases h65 : 65 ≤ x
      ·rw [ite_t (decide_eq_true h65)]
       by_cases h90 : x ≤ 90
       ·rw [ite_t (decide_eq_true h90)]
        exact kT _ (fun fu i => by rw [← hK]; rfl) (by rw [pe, decide_eq_true h65, decide_eq_true h90]; simp)
       ·rw [ite_f (decide_eq_false h90)]
        have h48 : 48 ≤ x := UInt8.le_trans (by decide) h65
        rw [ite_t (decide_eq_true h48)]
        exact kA _ _ (fun fu p i => by rw [← hK, ← hx]; rfl) (by rw [pe, decide_eq_false h97, decide_eq_false h90, decide_eq_true h48]; simp)
      ·rw [ite_f (decide_eq_false h65)]
       by_cases h48 : 48 ≤ x
       ·rw [ite_t (decide_eq_true h48)]
        exact kA _ _ (fun fu p i => by rw [← hK, ← hx]; rfl) (by rw [pe, decide_eq_false h97, decide_eq_false h65, decide_eq_true h48]; simp)
       ·rw [ite_f (decide_eq_false h48)]
        exact kA _ _ (fun fu p i => by rw [← hK, ← hx]; rfl) (by rw [pe, decide_eq_false h97, decide_eq_false h65, decide_eq_false h48]; simp)
    ·rw [ite_f (by rfl), if_neg (by decide), hj, if_neg (by decide)]
     have h1 : hiB x = false := decide_eq_false h128
     rw [h1]; rfl
def loB (b : Nat) : Nat := if b = 224 then 160 else if b = 240 then 144 else 128
def hiE (b : Nat) : Nat := if b = 237 then 159 else if b = 244 then 143 else 191
theorem loB_is (b : Nat) : (b = 224 ∧ loB b = 160) ∨ (b = 240 ∧ loB b = 144) ∨ (b ≠ 224 ∧ b ≠ 240 ∧ loB b = 128) := by unfold loB; split <;> (try split) <;> omega
theorem hiE_is (b : Nat) : (b = 237 ∧ hiE b = 159) ∨ (b = 244 ∧ hiE b = 143) ∨ (b ≠ 237 ∧ b ≠ 244 ∧ hiE b = 191) := by unfold hiE; split <;> (try split) <;> omega
def refOK (N b0 b1 b2 b3 : Nat) : Option Nat :=
 if b0 < 128 then some 0
 else if 194 ≤ b0 ∧ b0 ≤ 223 then (if 1 < N ∧ 128 ≤ b1 ∧ b1 ≤ 191 then some 1 else none)
 else if 224 ≤ b0 ∧ b0 ≤ 239 then (if 2 < N ∧ loB b0 ≤ b1 ∧ b1 ≤ hiE b0 ∧ 128 ≤ b2 ∧ b2 < 192 then some 2 else none)
 else if 240 ≤ b0 ∧ b0 ≤ 244 then (if 3 < N ∧ loB b0 ≤ b1 ∧ b1 ≤ hiE b0 ∧ 128 ≤ b2 ∧ b2 < 192 ∧ 128 ≤ b3 ∧ b3 < 192 then some 3 else none)
 else none
def isBad (N b0 b1 b2 : Nat) : Prop := 3 ≤ N ∧ b0 = 239 ∧ b1 = 191 ∧ b2 = 189
set_option maxHeartbeats 4000000 in
theorem dec_some {N b0 b1 b2 b3 k : Nat} (h0 : b0 < 256) (h1 : b1 < 256) (h2 : b2 < 256) (h3 : b3 < 256) (h : refOK N b0 b1 b2 b3 = some k) : (Lib.decodeN N b0 b1 b2 b3).2 = k + 1 ∧ ((Lib.decodeN N b0 b1 b2 b3).1 = 65533 → isBad N b0 b1 b2) := by
 unfold refOK at h
 split at h
 ·injection h with h; subst h
  unfold Lib.decodeN
  rw [if_pos (by assumption)]
  exact ⟨rfl, fun e => by simp only at e; omega⟩
 ·split at h
  ·split at h
   ·injection h with h; subst h
    unfold Lib.decodeN
    rw [if_neg (by omega), if_pos (by omega), if_pos (by omega)]
    exact ⟨rfl, fun e => by simp only at e; omega⟩
   ·cases h
  ·split at h
   ·split at h
    ·injection h with h; subst h
     rename_i hc
     have hlo := loB_is b0
     have hhi := hiE_is b0
     have hb1 : b1 ≤ 191 := by omega
     unfold Lib.decodeN
     rw [if_neg (by omega), if_neg (by omega), if_pos (by omega), if_pos (by omega)]
     exact ⟨rfl, fun e => by simp only at e; unfold isBad; omega⟩
    ·cases h
   ·split at h
    ·split at h
     ·injection h with h; subst h
      rename_i hc
      have hlo := loB_is b0
      have hhi := hiE_is b0
      have hb1 : b1 ≤ 191 := by omega
      unfold Lib.decodeN
      rw [if_neg (by omega), if_neg (by omega), if_neg (by omega), if_pos (by omega), if_pos (by omega)]
      exact ⟨rfl, fun e => by simp only at e; omega⟩
     ·cases h
    ·cases h
set_option maxHeartbeats 4000000 in
theorem dec_none {N b0 b1 b2 b3 : Nat} (h0 : b0 < 256) (h1 : b1 < 256) (h2 : b2 < 256) (h3 : b3 < 256) (h : refOK N b0 b1 b2 b3 = none) : Lib.decodeN N b0 b1 b2 b3 = (65533, 1) ∧ ¬ isBad N b0 b1 b2 := by
 unfold refOK at h
 unfold isBad
 split at h
 ·cases h
 ·rename_i c0
  split at h
  ·rename_i c1
   split at h
   ·cases h
   ·rename_i c2
    unfold Lib.decodeN
    rw [if_neg c0, if_neg (by omega), if_neg (by omega), if_neg (by omega)]
    exact ⟨rfl, by omega⟩
  ·rename_i c1
   split at h
   ·rename_i c2
    split at h
    ·cases h
    ·rename_i c3
     have hlo := loB_is b0
     have hhi := hiE_is b0
     unfold Lib.decodeN
     rw [if_neg c0, if_neg (by omega)]
     refine ⟨?_, by omega⟩
     split
     ·rw [if_neg (by omega)]
     ·rw [if_neg (by omega)]
   ·rename_i c2
    split at h
    ·rename_i c3
     split at h
     ·cases h
     ·rename_i c4
      have hlo := loB_is b0
      have hhi := hiE_is b0
      unfold Lib.decodeN
      rw [if_neg c0, if_neg (by omega), if_neg (by omega)]
      refine ⟨?_, by omega⟩
      split
      ·rw [if_neg (by omega)]
      ·rfl
    ·rename_i c3
     unfold Lib.decodeN
     refine ⟨?_, by omega⟩
     rw [if_neg c0]
     split
     ·rw [if_neg (by omega)]
     ·split
      ·rw [if_neg (by omega)]
      ·split
       ·rw [if_neg (by omega)]
       ·rfl
def stp3 (a : List UInt8) (i : Nat) : Option Nat := refOK (a.length - i) (a.getD i 0).toNat (a.getD (i + 1) 0).toNat (a.getD (i + 2) 0).toNat (a.getD (i + 3) 0).toNat
theorem get!_D (a : List UInt8) (i : Nat) : (⟨a.toArray⟩ : ByteArray).get! i = a.getD i 0 := by
 show a.toArray[i]! = _
 rw [List.getElem!_toArray, List.getElem!_eq_getElem?_getD, List.getD_eq_getElem?_getD]; rfl
theorem dec_at (a : List UInt8) (i : Nat) : Utf8.decode ⟨a.toArray⟩ i = Lib.decodeN (a.length - i) (a.getD i 0).toNat (a.getD (i + 1) 0).toNat (a.getD (i + 2) 0).toNat (a.getD (i + 3) 0).toNat := by
 rw [Lib.decode_at, get!_D, get!_D, get!_D, get!_D]; rfl
theorem preF_drop (a : List UInt8) (i : Nat) (hi : i < a.length) : preF (a.drop i) = true ↔ isBad (a.length - i) (a.getD i 0).toNat (a.getD (i + 1) 0).toNat (a.getD (i + 2) 0).toNat := by
 unfold preF isBad
 rw [beq_iff_eq]
 have e : ∀ (x : UInt8) (k : Nat), k < 256 → (x.toNat = k ↔ x = UInt8.ofNat k) := fun x k hk => by
  rw [← UInt8.toNat_inj]; simp [Nat.mod_eq_of_lt hk]
 rw [e _ _ (by decide), e _ _ (by decide), e _ _ (by decide)]
 constructor
 ·intro h
  have hl := congrArg List.length h
  rw [List.length_take, List.length_drop] at hl
  have h3 : 3 ≤ a.length - i := by simp at hl; omega
  rw [drop_at (z := 0) hi, drop_at (z := 0) (show i + 1 < a.length by omega), drop_at (z := 0) (show i + 1 + 1 < a.length by omega)] at h
  simp only [List.take_succ_cons, List.take_zero, List.cons.injEq, and_true] at h
  exact ⟨h3, h.1, h.2.1, h.2.2⟩
 ·rintro ⟨h3, h4, h5, h6⟩
  rw [drop_at (z := 0) hi, drop_at (z := 0) (show i + 1 < a.length by omega), drop_at (z := 0) (show i + 1 + 1 < a.length by omega), h4, h5, h6]; rfl
theorem ext_drop (a : List UInt8) (i : Nat) : ((⟨a.toArray⟩ : ByteArray).extract i (⟨a.toArray⟩ : ByteArray).size).data.toList = a.drop i := by
 rw [show (⟨a.toArray⟩ : ByteArray).size = a.length from rfl]
 simp [ByteArray.data_extract, List.take_of_length_le]
theorem pts_step (a : List UInt8) (f i : Nat) (hi : i < a.length) : ptsFrom ⟨a.toArray⟩ (f + 1) i = match stp3 a i with | none => false | some k => ptsFrom ⟨a.toArray⟩ f (i + (k + 1)) := by
 have b := fun j => (a.getD j 0).toNat_lt
 rw [ptsFrom, if_pos (show i < (⟨a.toArray⟩ : ByteArray).size from hi), ext_drop, dec_at]
 unfold stp3
 cases h : refOK (a.length - i) (a.getD i 0).toNat (a.getD (i + 1) 0).toNat (a.getD (i + 2) 0).toNat (a.getD (i + 3) 0).toNat with
 | none =>
  obtain ⟨h1, h2⟩ := dec_none (b _) (b _) (b _) (b _) h
  rw [h1, if_pos ⟨rfl, by rw [Bool.eq_false_iff]; exact fun e => h2 ((preF_drop a i hi).1 e)⟩]
 | some k =>
  obtain ⟨h1, h2⟩ := dec_some (b _) (b _) (b _) (b _) h
  rw [h1, if_neg (fun ⟨e1, e2⟩ => by rw [(preF_drop a i hi).2 (h2 e1)] at e2; cases e2)]
def lat (x : UInt8) : Bool := decide (128 ≤ x) && decide (x < 192)
theorem rlater_is (n : Nat) (x : UInt8) : rlater n x = some (lat x) := by
 unfold rlater lat
 by_cases h : 128 ≤ x
 ·rw [ite_t (decide_eq_true h), decide_eq_true h, Bool.true_and]
 ·rw [ite_f (decide_eq_false h), decide_eq_false h]; rfl
theorem lat_iff (x : UInt8) : lat x = true ↔ 128 ≤ x.toNat ∧ x.toNat < 192 := by
 unfold lat
 rw [Bool.and_eq_true, decide_eq_true_eq, decide_eq_true_eq, UInt8.le_iff_toNat_le, UInt8.lt_iff_toNat_lt]; rfl
open Classical in
theorem l23_is (f : Nat → Int → Option Bool) (n : Nat) (a : List UInt8) (ha : a.length ≤ 100000) (i nn : Nat) (hnn : nn ≤ 3) (hi : i + nn < a.length) (K : Int → Option Bool)
  (hf : ∀ fu j, f (fu + 1) j = bif (decide (j ≤ (nn : Int))) then gd (okI .i64 ((i : Int) + j)) (gd (0 ≤ ((i : Int) + j)) (gd (((i : Int) + j) < ((a.length : Nat) : Int)) ((rlater n (a.getD (((i : Int) + j).toNat) 0)).bind fun r => bif (!r) then some false else gd (okI .i64 (j + 1)) (f fu (j + 1)))))
   else gd (okI .i64 ((i : Int) + 1)) (gd (okI .i64 (((i : Int) + 1) + (nn : Int))) (K (((i : Int) + 1) + (nn : Int))))) :
  ∀ (m j fu : Nat), j + m = 4 → 2 ≤ j → m < fu → f fu (j : Int) = if ∀ q, j ≤ q → q ≤ nn → lat (a.getD (i + q) 0) = true then K (((i + (nn + 1) : Nat) : Int)) else some false := by
 intro m
 have he : (((i : Int) + 1) + (nn : Int)) = ((i + (nn + 1) : Nat) : Int) := by omega
 induction m with
 | zero =>
  intro j fu hj h2 hf'
  cases fu with
  | zero => omega
  | succ fu =>
   rw [hf, ite_f (decide_eq_false (by omega)), gd_pos (okI64 (by omega) (by omega)), gd_pos (okI64 (by omega) (by omega)), he, if_pos (fun q h1 h2 => by omega)]
 | succ m ih =>
  intro j fu hj h2 hf'
  cases fu with
  | zero => omega
  | succ fu =>
   by_cases hle : j ≤ nn
   ·have et : ((i : Int) + (j : Int)).toNat = i + j := by omega
    rw [hf, ite_t (decide_eq_true (by omega)), gd_pos (okI64 (by omega) (by omega)), gd_pos (by omega), gd_pos (by omega), et, rlater_is, Option.bind_some]
    cases hl : lat (a.getD (i + j) 0) with
    | false =>
     rw [ite_t (by rfl), if_neg (fun h => by rw [h j (Nat.le_refl _) hle] at hl; cases hl)]
    | true =>
     rw [ite_f (by rfl), gd_pos (okI64 (by omega) (by omega))]
     have := ih (j + 1) fu (by omega) (by omega) (by omega)
     refine this.trans ?_
     by_cases hc : ∀ q, j + 1 ≤ q → q ≤ nn → lat (a.getD (i + q) 0) = true
     ·rw [if_pos hc, if_pos (fun q h1 h2 => by
       rcases Nat.lt_or_ge j q with h3 | h3
       ·exact hc q h3 h2
       ·obtain rfl : q = j := by omega
        exact hl)]
     ·rw [if_neg hc, if_neg (fun h => hc fun q h1 h2 => h q (by omega) h2)]
   ·rw [hf, ite_f (decide_eq_false (by omega)), gd_pos (okI64 (by omega) (by omega)), gd_pos (okI64 (by omega) (by omega)), he, if_pos (fun q h1 h2 => by omega)]
open Classical in
theorem j5_is {n : Nat} (hn : 100 ≤ n) (a : List UInt8) (ha : a.length ≤ 100000) (i nn lo hi : Nat) (hnn : nn ≤ 3) (hi2 : i < a.length) (K : Int → Option Bool) :
  rPoints_j5 n a (i : Int) (nn : Int) (lo : Int) K (hi : Int) = if i + nn < a.length ∧ (nn = 0 ∨ (lo ≤ (a.getD (i + 1) 0).toNat ∧ (a.getD (i + 1) 0).toNat ≤ hi)) ∧ (∀ q, 2 ≤ q → q ≤ nn → lat (a.getD (i + q) 0) = true) then K (((i + (nn + 1) : Nat) : Int)) else some false := by
 unfold rPoints_j5
 rw [gd_pos (okI64 (by omega) (by omega))]
 by_cases h1 : i + nn < a.length
 ·rw [ite_f (decide_eq_false (by omega))]
  have e1 : ((i : Int) + 1).toNat = i + 1 := by omega
  by_cases h0 : nn = 0
  ·subst h0
   rw [ite_f (decide_eq_false (by omega))]
   rw [show (2 : Int) = ((2 : Nat) : Int) from rfl, l23_is (rPoints_l3 n a (i : Int) ((0 : Nat) : Int) K) n a ha i 0 (by omega) h1 K (fun fu j => rfl) 2 2 n rfl (by omega) (by omega)]
   rw [if_pos (fun q h1 h2 => by omega), if_pos ⟨h1, .inl rfl, fun q h1 h2 => by omega⟩]
  ·rw [ite_t (decide_eq_true (by omega)), gd_pos (okI64 (by omega) (by omega)), gd_pos (by omega), gd_pos (by omega), e1]
   by_cases h2 : (a.getD (i + 1) 0).toNat < lo
   ·rw [ite_t (decide_eq_true (by omega)), if_neg (fun h => by have := h.2.1; omega)]
   ·rw [ite_f (decide_eq_false (by omega)), gd_pos (okI64 (by omega) (by omega)), gd_pos (by omega), gd_pos (by omega)]
    by_cases h3 : hi < (a.getD (i + 1) 0).toNat
    ·rw [ite_t (decide_eq_true (by omega)), if_neg (fun h => by have := h.2.1; omega)]
    ·rw [ite_f (decide_eq_false (by omega))]
     rw [show (2 : Int) = ((2 : Nat) : Int) from rfl, l23_is (rPoints_l2 n a (i : Int) (nn : Int) K) n a ha i nn hnn h1 K (fun fu j => rfl) 2 2 n rfl (by omega) (by omega)]
     by_cases hc : ∀ q, 2 ≤ q → q ≤ nn → lat (a.getD (i + q) 0) = true
     ·rw [if_pos hc, if_pos ⟨h1, .inr ⟨by omega, by omega⟩, hc⟩]
     ·rw [if_neg hc, if_neg (fun h => hc h.2.2)]
 ·rw [ite_t (decide_eq_true (by omega)), if_neg (fun h => h1 h.1)]
theorem j1_is (n : Nat) (a : List UInt8) (i : Nat) (K : Int → Option Bool) (nn : Int) : rPoints_j1 n a (i : Int) K nn = rPoints_j5 n a (i : Int) nn ((loB (a.getD i 0).toNat : Nat) : Int) K ((hiE (a.getD i 0).toNat : Nat) : Int) := by
 unfold rPoints_j1 rPoints_j2 rPoints_j3 rPoints_j4
 rw [Int.toNat_natCast]
 generalize (a.getD i 0).toNat = b
 have key : ∀ k : Nat, (((b : Int)) == (k : Int)) = decide (b = k) := fun k => by
  by_cases h : b = k
  ·subst h; simp
  ·rw [decide_eq_false h, beq_eq_false_iff_ne]; omega
 have k1 : ((b : Int) == 224) = decide (b = 224) := key 224
 have k2 : ((b : Int) == 237) = decide (b = 237) := key 237
 have k3 : ((b : Int) == 240) = decide (b = 240) := key 240
 have k4 : ((b : Int) == 244) = decide (b = 244) := key 244
 rw [k1, k2, k3, k4]
 unfold loB hiE
 by_cases h1 : b = 224
 ·subst h1; rfl
 ·by_cases h2 : b = 237
  ·subst h2; rfl
  ·by_cases h3 : b = 240
   ·subst h3; rfl
   ·by_cases h4 : b = 244
    ·subst h4; rfl
    ·rw [decide_eq_false h1, decide_eq_false h2, decide_eq_false h3, decide_eq_false h4, if_neg h1, if_neg h3, if_neg h2, if_neg h4]; rfl
open Classical in
theorem pt_step {n : Nat} (hn : 100 ≤ n) (a : List UInt8) (ha : a.length ≤ 100000) (fu i : Nat) (hi : i < a.length) : rPoints_l1 n a (fu + 1) (i : Int) = match stp3 a i with | none => some false | some k => rPoints_l1 n a fu ((i + (k + 1) : Nat) : Int) := by
 have hj : ∀ nn : Nat, nn ≤ 3 → rPoints_j1 n a (i : Int) (rPoints_l1 n a fu) (nn : Int) = if i + nn < a.length ∧ (nn = 0 ∨ (loB (a.getD i 0).toNat ≤ (a.getD (i + 1) 0).toNat ∧ (a.getD (i + 1) 0).toNat ≤ hiE (a.getD i 0).toNat)) ∧ (∀ q, 2 ≤ q → q ≤ nn → lat (a.getD (i + q) 0) = true) then rPoints_l1 n a fu (((i + (nn + 1) : Nat) : Int)) else some false := fun nn hnn => by
  rw [j1_is, j5_is hn a ha i nn _ _ hnn hi]
 have j0 := hj 0 (by omega); have j1 := hj 1 (by omega); have j2 := hj 2 (by omega); have j3 := hj 3 (by omega)
 clear hj
 have l2 := lat_iff (a.getD (i + 2) 0); have l3 := lat_iff (a.getD (i + 3) 0)
 rw [rPoints_l1, ite_t (decide_eq_true (by omega)), gd_pos (by omega), gd_pos (by omega), Int.toNat_natCast]
 unfold stp3 refOK
 have hb := loB_is (a.getD i 0).toNat; have he := hiE_is (a.getD i 0).toNat
 generalize hG : rPoints_l1 n a fu = G at *
 have j0' : rPoints_j1 n a (i : Int) G 0 = _ := j0
 have j1' : rPoints_j1 n a (i : Int) G 1 = _ := j1
 have j2' : rPoints_j1 n a (i : Int) G 2 = _ := j2
 have j3' : rPoints_j1 n a (i : Int) G 3 = _ := j3
 clear j0 j1 j2 j3
 generalize (a.getD i 0).toNat = b0 at *
 by_cases c0 : b0 < 128
 ·rw [ite_t (decide_eq_true (by omega)), if_pos c0, j0', if_pos ⟨by omega, .inl rfl, fun q h1 h2 => by omega⟩]
 ·rw [ite_f (decide_eq_false (by omega)), if_neg c0]
  by_cases c1 : 194 ≤ b0 ∧ b0 ≤ 223
  ·rw [ite_t (decide_eq_true (by omega)), ite_t (decide_eq_true (by omega)), if_pos c1, j1']
   by_cases c2 : 1 < a.length - i ∧ 128 ≤ (a.getD (i + 1) 0).toNat ∧ (a.getD (i + 1) 0).toNat ≤ 191
   ·rw [if_pos c2, if_pos ⟨by omega, .inr ⟨by omega, by omega⟩, fun q h1 h2 => by omega⟩]
   ·rw [if_neg c2, if_neg (fun h => c2 (by have := h.1; have := h.2.1; omega))]
  ·rw [if_neg c1]
   have step2 : (bif (decide ((224 : Int) ≤ ((b0 : Nat) : Int))) then
      bif (decide (((b0 : Nat) : Int) ≤ (239 : Int))) then rPoints_j1 n a (i : Int) G 2
      else bif (decide ((240 : Int) ≤ ((b0 : Nat) : Int))) then bif (decide (((b0 : Nat) : Int) ≤ (244 : Int))) then rPoints_j1 n a (i : Int) G 3 else some false else some false
     else bif (decide ((240 : Int) ≤ ((b0 : Nat) : Int))) then bif (decide (((b0 : Nat) : Int) ≤ (244 : Int))) then rPoints_j1 n a (i : Int) G 3 else some false else some false) =
     (match (if 224 ≤ b0 ∧ b0 ≤ 239 then (if 2 < a.length - i ∧ loB b0 ≤ (a.getD (i + 1) 0).toNat ∧ (a.getD (i + 1) 0).toNat ≤ hiE b0 ∧ 128 ≤ (a.getD (i + 2) 0).toNat ∧ (a.getD (i + 2) 0).toNat < 192 then some 2 else none)
      else if 240 ≤ b0 ∧ b0 ≤ 244 then (if 3 < a.length - i ∧ loB b0 ≤ (a.getD (i + 1) 0).toNat ∧ (a.getD (i + 1) 0).toNat ≤ hiE b0 ∧ 128 ≤ (a.getD (i + 2) 0).toNat ∧ (a.getD (i + 2) 0).toNat < 192 ∧ 128 ≤ (a.getD (i + 3) 0).toNat ∧ (a.getD (i + 3) 0).toNat < 192 then some 3 else none)
      else none : Option Nat) with | none => some false | some k => G ((i + (k + 1) : Nat) : Int)) := by
    by_cases c2 : 224 ≤ b0 ∧ b0 ≤ 239
    ·rw [ite_t (decide_eq_true (by omega)), ite_t (decide_eq_true (by omega)), if_pos c2, j2']
     by_cases c3 : 2 < a.length - i ∧ loB b0 ≤ (a.getD (i + 1) 0).toNat ∧ (a.getD (i + 1) 0).toNat ≤ hiE b0 ∧ 128 ≤ (a.getD (i + 2) 0).toNat ∧ (a.getD (i + 2) 0).toNat < 192
     ·rw [if_pos c3, if_pos ⟨by omega, .inr ⟨c3.2.1, c3.2.2.1⟩, fun q h1 h2 => by
       obtain rfl : q = 2 := by omega
       exact l2.2 c3.2.2.2⟩]
     ·rw [if_neg c3, if_neg (fun h => c3 (by have h2 := l2.1 (h.2.2 2 (by omega) (by omega)); have := h.1; have := h.2.1; omega))]
    ·by_cases c3 : 240 ≤ b0 ∧ b0 ≤ 244
     ·rw [ite_t (decide_eq_true (by omega)), ite_f (decide_eq_false (by omega)), ite_t (decide_eq_true (by omega)), ite_t (decide_eq_true (by omega)), if_neg c2, if_pos c3, j3']
      by_cases c4 : 3 < a.length - i ∧ loB b0 ≤ (a.getD (i + 1) 0).toNat ∧ (a.getD (i + 1) 0).toNat ≤ hiE b0 ∧ 128 ≤ (a.getD (i + 2) 0).toNat ∧ (a.getD (i + 2) 0).toNat < 192 ∧ 128 ≤ (a.getD (i + 3) 0).toNat ∧ (a.getD (i + 3) 0).toNat < 192
      ·rw [if_pos c4, if_pos ⟨by omega, .inr ⟨c4.2.1, c4.2.2.1⟩, fun q h1 h2 => by
        rcases (show q = 2 ∨ q = 3 by omega) with rfl | rfl
        ·exact l2.2 ⟨c4.2.2.2.1, c4.2.2.2.2.1⟩
        ·exact l3.2 c4.2.2.2.2.2⟩]
      ·rw [if_neg c4, if_neg (fun h => c4 (by have h2 := l2.1 (h.2.2 2 (by omega) (by omega)); have h3 := l3.1 (h.2.2 3 (by omega) (by omega)); have := h.1; have := h.2.1; omega))]
     ·rw [if_neg c2, if_neg c3]
      by_cases c4 : 224 ≤ b0
      ·rw [ite_t (decide_eq_true (by omega)), ite_f (decide_eq_false (by omega)), ite_t (decide_eq_true (by omega)), ite_f (decide_eq_false (by omega))]
      ·rw [ite_f (decide_eq_false (by omega)), ite_f (decide_eq_false (by omega))]
   by_cases c2 : 194 ≤ b0
   ·rw [ite_t (decide_eq_true (by omega)), ite_f (decide_eq_false (by omega))]
    exact step2
   ·rw [ite_f (decide_eq_false (by omega))]
    exact step2
theorem points_eq {n : Nat} (hn : 100 ≤ n) (a : List UInt8) (ha : a.length ≤ 100000) : ∀ (m i f g : Nat), a.length ≤ i + m → m < f → m < g → rPoints_l1 n a f (i : Int) = some (ptsFrom ⟨a.toArray⟩ g i) := by
 intro m
 induction m with
 | zero =>
  intro i f g hi hf hg
  cases f with
  | zero => omega
  | succ f =>
   cases g with
   | zero => omega
   | succ g => rw [rPoints_l1, ite_f (decide_eq_false (by omega)), ptsFrom, if_neg (by show ¬ i < a.length; omega)]
 | succ m ih =>
  intro i f g hi hf hg
  cases f with
  | zero => omega
  | succ f =>
   cases g with
   | zero => omega
   | succ g =>
    by_cases hlt : i < a.length
    ·rw [pt_step hn a ha f i hlt, pts_step a g i hlt]
     cases stp3 a i with
     | none => rfl
     | some k => exact ih (i + (k + 1)) f g (by omega) (by omega) (by omega)
    ·rw [rPoints_l1, ite_f (decide_eq_false (by omega)), ptsFrom, if_neg (by show ¬ i < a.length; omega)]
theorem rPoints_is {n : Nat} (a : List UInt8) (ha : a.length ≤ 2000) (hn : 3000 ≤ n) : rPoints n a = some (ptsF a) :=
 points_eq (by omega) a (by omega) a.length 0 n (a.length + 1) (by omega) (by omega) (by omega)
def txOk (m : UInt8) (a : List UInt8) : Bool := if m = 12 then ptsF a else !(a.any prtN)
theorem txOk12 (a : List UInt8) : txOk 12 a = ptsF a := if_pos rfl
theorem txOk19 (a : List UInt8) : txOk 19 a = !(a.any prtN) := if_neg (by decide)
theorem pText_is {n : Nat} {m : UInt8} (hm : m = 12 ∨ m = 19) (a : List UInt8) (ha : a.length ≤ 2000) : pText n m a = some (if txOk m a = true then none else some 2) := by
 rcases hm with rfl | rfl
 ·rw [txOk12]
  unfold pText
  rw [ite_t (by rfl), gd_pos (by omega)]
  unfold pText_j1
  cases ptsF a <;> rfl
 ·rw [txOk19]
  unfold pText
  rw [ite_f (by rfl), ite_t (by rfl)]
  unfold pText_j1
  cases a.any prtN <;> rfl
theorem rText_is {n : Nat} {m : UInt8} (hm : m = 12 ∨ m = 19) (a : List UInt8) (ha : a.length ≤ 2000) (hn : 3000 ≤ n) : rText n m a = some (txOk m a) := by
 rcases hm with rfl | rfl
 ·rw [txOk12]
  unfold rText
  rw [ite_t (by rfl), rPoints_is a (by omega) hn]; rfl
 ·rw [txOk19]
  unfold rText
  rw [ite_f (by rfl)]
  have := rText_l1_is (n := n) (by omega) (mk := 19) (a := a) (by omega) (.inl rfl) a.length 0 n (by omega) (by omega)
  rw [List.drop_zero, if_pos rfl] at this
  exact this
end Go.Sx
end
section
namespace Go.Proofs.Ytobfglafchoipaa
open Go.RowKit Go.Ch Go.Sx
theorem cloneb_info : (Try.prog.info? 5).map (fun i => (i.zero, i.size, i.bytes)) = some (some (.int .u8 0), 1, 1) := by kernel_rfl
set_option maxHeartbeats 400000 in
set_option maxRecDepth 100000 in
theorem cloneb_c (w : World) (B : Nat) (v : Value) (l : List UInt8) (hv : Sl w B v (l.map bU)) (hl : l.length ≤ 1000000000000) :
  Calls Try.prog 58 #[v] w (Ret fun v' w' => Ext w w' ∧ Own w' w.heap.size 5 v' (l.map bU)) := by
 obtain ⟨i5, hi5, hz5, hs5, hb5⟩ := info_parts cloneb_info
 go_enter Try.func58, Try.ntmps58
 go_wp2_with (first
  | ((with_reducible refine g_at (d := 4) ?_); refine wpl_eq_nil rfl Try.underlying22 hv ?_; intro b4 hb4; try (conv in (Act.put _ _ _) => simp only [Act.put, List.setIfInBounds_toArray, List.set_cons_succ, List.set_cons_zero]))
  | ((with_reducible refine g_at (d := 5) ?_); refine wpl_buildSlice (vs := []) Try.underlying22 hi5 hz5 hs5 rfl (xs := []) rfl rfl rfl (by simp) (by omega) ?_; intro v5 w5 h5 hx5 ha5; try (conv in (Act.put _ _ _) => simp only [Act.put, List.setIfInBounds_toArray, List.set_cons_succ, List.set_cons_zero]))
  | ((with_reducible refine g_at (d := 7) ?_); refine wpl_append (v := v5) rfl rfl Try.underlying22 hi5 hz5 hs5 hb5 rfl h5 (hv.ext hx5) (bU_one l) (by first | omega | (simp <;> omega)) (by omega) hx5.size ?_; intro v7 w7 h7 hg7 ha7 hx7; try (conv in (Act.put _ _ _) => simp only [Act.put, List.setIfInBounds_toArray, List.set_cons_succ, List.set_cons_zero])))
 ·go_ret
  have := hb4 (by assumption)
  exact ⟨_, rfl, Below.refl _ _, by rw [this]; exact World.ownsRow_nil _ _ _ _⟩
 ·go_ret
  exact ⟨_, rfl, hx5.trans hx7, by simpa using h7⟩
def cloneb_ct : Ct := fun args H => match args with
 | [x] => (match aB H x with | some l => some ([l.length ≤ 1000000000000], .c (.wh H.length), [⟨.row, 5, 1, l.length, .b l⟩]) | none => none)
 | _ => none
theorem cloneb_h : FnOk Try.prog Tr 58 cloneb_ct := by
 refine ⟨fun args H g av objs hF hg ρ w vals hG hp ha => ?_, _, Try.func58, by kernel_rfl, by kernel_rfl⟩
 unfold cloneb_ct at hF
 split at hF
 ·split at hF
  ·rename_i x l hl
   simp only [Option.some.injEq, Prod.mk.injEq] at hF
   obtain ⟨rfl, rfl, rfl⟩ := hF
   obtain ⟨v, vals, rfl, k, ha⟩ := F2.inv ha
   obtain rfl := F2.inv0 ha
   obtain ⟨p, hI⟩ := aB_ok hp hl k 5
   have hb : l.length ≤ 1000000000000 := by simpa [allP] using hg
   exact calls_mono (cloneb_c w _ v l (hI.sl (fun _ _ h => csR_b.1 h) (by simp)) hb) fun v w' ⟨hx, hv⟩ => ⟨hx, left_row hv (fun _ => csR_b.2 rfl) (by simp)⟩
  ·cases hF
 ·cases hF
end Go.Proofs.Ytobfglafchoipaa
end
section
namespace Go.Proofs.Ytobfglafchoipaa
open Go.RowKit Go.Ch Go.Sx
def tabL_nra : List (TypeId × Ti) := [(3, ⟨.int .i64, 1, 8, true, some [.int .i64]⟩),
 (5, ⟨.int .u8, 1, 1, true, some [.int .u8]⟩),
 (22, ⟨.sl 5, 1, 24, false, some [.nils]⟩),
 (38, ⟨.int .i64, 1, 8, true, some [.int .i64]⟩),
 (56, ⟨.ptr 89, 1, 8, true, some [.ptr]⟩),
 (87, ⟨.sl 3, 1, 24, false, some [.nils]⟩),
 (89, ⟨.st [(22, 0), (3, 1), (87, 2)], 3, 56, false, some [.nils, .int .i64, .nils]⟩)]
def tab_nra : Tab := fun t => (tabL_nra).lookup t
theorem tabE_nra : (tabL_nra.map fun p => tiOf Try.prog p.1) = tabL_nra.map fun p => some p.2 := by kernel_rfl
theorem tabO_nra : TabOk Try.prog tab_nra := tab_of tabE_nra
def tvalid (n : Nat) (a0 : UInt8) : Option (Bool) :=
 some ((a0 &&& (31 : UInt8)) != 31)
def tisW (n : Nat) (a0 : UInt8) : Option (Bool) :=
 some ((a0 &&& (32 : UInt8)) != 0)
def tHead (n : Nat) (a0 : UInt8) (a1 : Int) : Option (List UInt8 × Option Int) :=
 (tvalid n a0).bind fun r8 =>
 bif (!r8) then
  some ([], (some 1))
 else
  bif (decide (a1 < (0 : Int))) then
   some ([], (some 1))
  else
   bif (decide ((65535 : Int) < a1)) then
    some ([], (some 4))
   else
    bif (decide (a1 < (128 : Int))) then
     some ([a0, (UInt8.ofInt a1)], none)
    else
     bif (decide (a1 < (256 : Int))) then
      some ([a0, 129, (UInt8.ofInt a1)], none)
     else
      gd (0 ≤ (8 : Int)) <|
      gd ((8 : Int) ≤ (((IntKind.i64).bits : Nat) : Int)) <|
      some ([a0, 130, (UInt8.ofInt (a1 / 2 ^ 8)), (UInt8.ofInt a1)], none)
def tvalid_R (r : Bool) : S := ⟨[(2, kB r)], [], []⟩
def tvalid_ct (n : Nat) (r : Bool) : Ct := ctc rU8.rd fun _ l0 => ct0 fun H => ([tvalid n l0 = some r], shA H.length (kB r), shH H.length [])
theorem tvalid_ok (n : Nat) (r : Bool) : FnOk Try.prog Tr 48 (tvalid_ct n r) := by
 refine fnok Try.func48 ?_
 refine HO_c rU8 fun l0 _ => HO_0 tabO_nra (tvalid_R r) [.tmp 2] [] 6 Try.func48 fun w hG h => ?_
 unfold tvalid at h
 have hT := tabO_nra
 refine Vrs hT [] ⟨[(0, kU l0)], [], []⟩ ?_
 refine Vrs hT [] ⟨[(2, kB ((l0 &&& (31 : UInt8)) != 31))], [], []⟩ ?_
 refine Vc [] [] (tvalid_R ((l0 &&& (31 : UInt8)) != 31)) (W_ret ?_)
 exact ⟨.inl rfl, by cases h; rfl⟩
def tisW_R (r : Bool) : S := ⟨[(2, kB r)], [], []⟩
def tisW_ct (n : Nat) (r : Bool) : Ct := ctc rU8.rd fun _ l0 => ct0 fun H => ([tisW n l0 = some r], shA H.length (kB r), shH H.length [])
theorem tisW_ok (n : Nat) (r : Bool) : FnOk Try.prog Tr 70 (tisW_ct n r) := by
 refine fnok Try.func70 ?_
 refine HO_c rU8 fun l0 _ => HO_0 tabO_nra (tisW_R r) [.tmp 2] [] 6 Try.func70 fun w hG h => ?_
 unfold tisW at h
 have hT := tabO_nra
 refine Vrs hT [] ⟨[(0, kU l0)], [], []⟩ ?_
 refine Vrs hT [] ⟨[(2, kB ((l0 &&& (32 : UInt8)) != 0))], [], []⟩ ?_
 refine Vc [] [] (tisW_R ((l0 &&& (32 : UInt8)) != 0)) (W_ret ?_)
 exact ⟨.inl rfl, by cases h; rfl⟩
def tHead_R (r : List UInt8 × Option Int) : S := ⟨[(4, kH 0), (5, kE 38 r.2)], [], [nb 5 r.1]⟩
def tHead_ct (n : Nat) (r : List UInt8 × Option Int) : Ct := ctc rU8.rd fun _ l0 => ctc rI.rd fun _ l1 => ct0 fun H => ([tHead n l0 l1 = some r], shA H.length (.t [.c (.wh 0), .c (.s (.er 38 .i64 r.2))]), shH H.length [nb 5 r.1])
theorem tHead_ok (n : Nat) (r : List UInt8 × Option Int) : FnOk Try.prog Tr 28 (tHead_ct n r) := by
 refine fnok Try.func28 ?_
 refine HO_c rU8 fun l0 _ => HO_c rI fun l1 _ => HO_0 tabO_nra (tHead_R r) [.tmp 4, .tmp 5] [0] 40 Try.func28 fun w hG h => ?_
 unfold tHead at h
 have hT := tabO_nra
 refine Vrs hT [] ⟨[(0, kU l0), (1, kI l1)], [], []⟩ ?_
 refine W_seq ?_
 refine W_block ?_
 refine W_seq ?_
 obtain ⟨r8, g1, h⟩ := bind_some' h
 rcases Bool.eq_false_or_eq_true (!r8) with g2 | g2
 ·replace h := bif_t h g2
  refine Vg hT (fT 1 (tvalid_ok n r8) fN) [(3, true)] [] [] ⟨[(0, kU l0), (1, kI l1), (6, kB true)], [], []⟩ (aP g1 (aP g2 aN)) ?_
  refine Vi (true) (fun _ => ?_) (fun hb => by cases hb)
  refine Vrs hT [] ⟨[(4, .c (.nils)), (5, kE 38 (some 1))], [], []⟩ ?_
  refine Vc [.nil 4 5 1 (.b [])] [0] (tHead_R ([], (some 1))) (W_ret ?_)
  exact ⟨.inl rfl, by cases h; rfl⟩
 ·replace h := bif_f h g2
  refine Vg hT (fT 1 (tvalid_ok n r8) fN) [(3, false)] [] [] ⟨[(0, kU l0), (1, kI l1), (6, kB (decide (l1 < (0 : Int))))], [], []⟩ (aP g1 (aP g2 aN)) ?_
  refine Vi ((decide (l1 < (0 : Int)))) (fun g8 => ?_) (fun g8 => ?_)
  ·replace h := bif_t h g8
   refine Vrs hT [] ⟨[(4, .c (.nils)), (5, kE 38 (some 1))], [], []⟩ ?_
   refine Vc [.nil 4 5 1 (.b [])] [0] (tHead_R ([], (some 1))) (W_ret ?_)
   exact ⟨.inl rfl, by cases h; rfl⟩
  ·replace h := bif_f h g8
   refine Vrs hT [] ⟨[(0, kU l0), (1, kI l1), (15, kB (decide ((65535 : Int) < l1)))], [], []⟩ ?_
   refine Vi ((decide ((65535 : Int) < l1))) (fun g7 => ?_) (fun g7 => ?_)
   ·replace h := bif_t h g7
    refine Vrs hT [] ⟨[(4, .c (.nils)), (5, kE 38 (some 4))], [], []⟩ ?_
    refine Vc [.nil 4 5 1 (.b [])] [0] (tHead_R ([], (some 4))) (W_ret ?_)
    exact ⟨.inl rfl, by cases h; rfl⟩
   ·replace h := bif_f h g7
    refine Vrs hT [] ⟨[(0, kU l0), (1, kI l1), (19, kB (decide (l1 < (128 : Int))))], [], []⟩ ?_
    refine Vi ((decide (l1 < (128 : Int)))) (fun g6 => ?_) (fun g6 => ?_)
    ·replace h := bif_t h g6
     refine Vrs hT [0] ⟨[(4, kH 0), (5, .c (.s (.v .nilIface)))], [], [⟨.row, 5, 1, 2, .b [l0, (UInt8.ofInt l1)]⟩]⟩ ?_
     refine Vc [.er 5 38 .i64] [0] (tHead_R ([l0, (UInt8.ofInt l1)], none)) (W_ret ?_)
     exact ⟨.inl rfl, by cases h; rfl⟩
    ·replace h := bif_f h g6
     refine Vrs hT [] ⟨[(0, kU l0), (1, kI l1), (26, kB (decide (l1 < (256 : Int))))], [], []⟩ ?_
     refine Vi ((decide (l1 < (256 : Int)))) (fun g5 => ?_) (fun g5 => ?_)
     ·replace h := bif_t h g5
      refine Vrs hT [0] ⟨[(4, kH 0), (5, .c (.s (.v .nilIface)))], [], [⟨.row, 5, 1, 3, .b [l0, 129, (UInt8.ofInt l1)]⟩]⟩ ?_
      refine Vc [.er 5 38 .i64] [0] (tHead_R ([l0, 129, (UInt8.ofInt l1)], none)) (W_ret ?_)
      exact ⟨.inl rfl, by cases h; rfl⟩
     ·replace h := bif_f h g5
      refine W_skip ?_
      obtain ⟨g3, g4, h⟩ := gd2 h
      refine Vgs hT fN [] [] [0] ⟨[(4, kH 0), (5, .c (.s (.v .nilIface)))], [], [⟨.row, 5, 1, 4, .b [l0, 130, (UInt8.ofInt (l1 / 2 ^ 8)), (UInt8.ofInt l1)]⟩]⟩ (aP g3 (aP g4 aN)) ?_
      refine Vc [.er 5 38 .i64] [0] (tHead_R ([l0, 130, (UInt8.ofInt (l1 / 2 ^ 8)), (UInt8.ofInt l1)], none)) (W_ret ?_)
      exact ⟨.inl rfl, by cases h; rfl⟩
end Go.Proofs.Ytobfglafchoipaa
end
section
namespace Go.Proofs.Ytobfglafchoipaa
open Go.RowKit Go.Ch Go.Sx
def tabL_nwa : List (TypeId × Ti) := [(5, ⟨.int .u8, 1, 1, true, some [.int .u8]⟩),
 (22, ⟨.sl 5, 1, 24, false, some [.nils]⟩),
 (32, ⟨.ifc, 1, 16, true, some [.ifc]⟩),
 (70, ⟨.ptr 100, 1, 8, true, some [.ptr]⟩),
 (98, ⟨.sl 103, 1, 24, false, some [.nils]⟩),
 (100, ⟨.st [(98, 0), (32, 1)], 2, 40, false, some [.nils, .ifc]⟩),
 (103, ⟨.st [(5, 0), (22, 1)], 2, 32, false, some [.int .u8, .nils]⟩)]
def tab_nwa : Tab := fun t => (tabL_nwa).lookup t
theorem tabE_nwa : (tabL_nwa.map fun p => tiOf Try.prog p.1) = tabL_nwa.map fun p => some p.2 := by kernel_rfl
theorem tabO_nwa : TabOk Try.prog tab_nwa := tab_of tabE_nwa
def wNew (n : Nat) : Option (Unit) :=
 some ()
def wOpen1 (n : Nat) (a0_0 : UInt8) (a0_1 : List UInt8) (a1 : UInt8) : Option (Unit) :=
 (tvalid n a1).bind fun r23 =>
 bif (!r23) then
  none
 else
  (tisW n a1).bind fun r27 =>
  bif (!r27) then
   none
  else
   gd (rmB 2 32) <|
   some ()
def wadd1 (n : Nat) (a0_0 : UInt8) (a0_1 : List UInt8) (a1 : UInt8) (a2 : List UInt8) : Option (List UInt8) :=
 (tHead n a1 ((a2.length : Nat) : Int)).bind fun r13 =>
 bif (!((r13.2).isNone)) then
  none
 else
  gd (okI .i64 0) <|
  gd (0 ≤ (0 : Int)) <|
  gd ((0 : Int) < (1 : Int)) <|
  gd (1 < 1 * 2) <|
  gd (rmB (a0_1.length + r13.1.length) 1) <|
  gd (rmB (((a0_1 ++ r13.1).length) + a2.length) 1) <|
  gd (1 < 1 * 2) <|
  some ((a0_1 ++ r13.1) ++ a2)
def wadd2 (n : Nat) (a0_0 : UInt8) (a0_1 : List UInt8) (a0_2 : UInt8) (a0_3 : List UInt8) (a1 : UInt8) (a2 : List UInt8) : Option (List UInt8) :=
 (tHead n a1 ((a2.length : Nat) : Int)).bind fun r13 =>
 bif (!((r13.2).isNone)) then
  none
 else
  gd (okI .i64 1) <|
  gd (0 ≤ (1 : Int)) <|
  gd ((1 : Int) < (2 : Int)) <|
  gd (3 < 2 * 2) <|
  gd (rmB (a0_3.length + r13.1.length) 1) <|
  gd (rmB (((a0_3 ++ r13.1).length) + a2.length) 1) <|
  gd (3 < 2 * 2) <|
  some ((a0_3 ++ r13.1) ++ a2)
def wPut2 (n : Nat) (a0_0 : UInt8) (a0_1 : List UInt8) (a0_2 : UInt8) (a0_3 : List UInt8) (a1 : UInt8) (a2 : List UInt8) : Option (List UInt8) :=
 (tvalid n a1).bind fun r18 =>
 bif (!r18) then
  none
 else
  (tisW n a1).bind fun r22 =>
  bif r22 then
   none
  else
   (wadd2 n a0_0 a0_1 a0_2 a0_3 a1 a2).bind fun r9 =>
   some r9
def wClose2 (n : Nat) (a0_0 : UInt8) (a0_1 : List UInt8) (a0_2 : UInt8) (a0_3 : List UInt8) : Option (List UInt8) :=
 gd (okI .i64 1) <|
 gd (0 ≤ (1 : Int)) <|
 gd ((1 : Int) < (2 : Int)) <|
 gd (2 + 2 ≤ 4) <|
 gd (okI .i64 1) <|
 gd (0 ≤ (1 : Int)) <|
 gd ((1 : Int) ≤ (2 : Int)) <|
 (wadd1 n a0_0 a0_1 a0_2 a0_3).bind fun r34 =>
 some r34
def wBytes1 (n : Nat) (a0_0 : UInt8) (a0_1 : List UInt8) : Option (Unit) :=
 gd (0 ≤ (0 : Int)) <|
 gd ((0 : Int) < (1 : Int)) <|
 gd (1 < 1 * 2) <|
 gd ((a0_1).length ≤ 1000000000000) <|
 some ()
def wNew_R (r : Unit) : S := ⟨[(0, kP 0 0)], [], [⟨.blk, 100, 1, 2, .c [.wh 1, .s (.v .nilIface)]⟩, ⟨.row, 103, 2, 1, .c [.s (.u8 0), .wh 2]⟩, ⟨.row, 5, 1, 0, .b []⟩]⟩
def wNew_ct (n : Nat) (r : Unit) : Ct := ct0 fun H => ([wNew n = some r], shA H.length (kP 0 0), shH H.length [⟨.blk, 100, 1, 2, .c [.wh 1, .s (.v .nilIface)]⟩, ⟨.row, 103, 2, 1, .c [.s (.u8 0), .wh 2]⟩, ⟨.row, 5, 1, 0, .b []⟩])
theorem wNew_ok (n : Nat) (r : Unit) : FnOk Try.prog Tr 42 (wNew_ct n r) := by
 refine fnok Try.func42 ?_
 refine HO_0 tabO_nwa (wNew_R r) [.tmp 0] [0, 1, 2] 4 Try.func42 fun w hG h => ?_
 unfold wNew at h
 have hT := tabO_nwa
 refine Vrs hT [] ⟨[], [], []⟩ ?_
 refine Vrs hT [1, 0] ⟨[(0, kP 0 0)], [], [⟨.blk, 100, 1, 2, .c [.wh 1, .s (.v .nilIface)]⟩, ⟨.row, 103, 2, 1, .c [.s (.u8 0), .nils]⟩]⟩ ?_
 refine Vc [.nlc 1 1 5 1 (.b []) none] [0, 1, 2] (wNew_R ()) (W_ret ?_)
 exact ⟨.inl rfl, by cases h; rfl⟩
def wOpen1_R (a0_0 : UInt8) (a0_1 : List UInt8) (a1 : UInt8) (r : Unit) : S := ⟨[], [(1000000, kP 0 0)], [⟨.blk, 100, 1, 2, .c [.wh 1, .s (.er 38 .i64 none)]⟩, ⟨.row, 103, 2, 2, .c [.s (.u8 a0_0), .wh 2, .s (.u8 a1), .wh 3]⟩, nb 5 a0_1, ⟨.row, 5, 1, 0, .b []⟩]⟩
def wOpen1_ct (n : Nat) (r : Unit) : CtM := ctM (cmm (mP 100 (mC (mR 103 2 1 (mC mU8 (mC (mB 5) mN))) (mC (mE0 38) mN))) fun y0 => cmc rU8.rd fun l1 => cmR (wOpen1 n y0.1.1 y0.1.2.1 l1 = some r) (.t []) [⟨.blk, 100, 1, 2, .c [.wh 0, .s (.er 38 .i64 none)]⟩] [⟨.row, 103, 2, 2, .c [.s (.u8 y0.1.1), .wh 1, .s (.u8 l1), .wh 2]⟩, nb 5 y0.1.2.1, ⟨.row, 5, 1, 0, .b []⟩])
theorem wOpen1_ok (n : Nat) (r : Unit) : FnMOk Try.prog 43 (wOpen1_ct n r) := by
 refine fnokM Try.func43 ?_
 refine HM_m (mP 100 (mC (mR 103 2 1 (mC mU8 (mC (mB 5) mN))) (mC (mE0 38) mN))) (fun (p0 : ((((UInt8) × (List UInt8) × Unit)) × (Unit) × Unit)) => ?_) (allOwn_ok rfl)
 obtain ⟨⟨l0_0, l0_1, _⟩, _, _⟩ := p0
 refine HM_c rU8 fun l1 _ => HM_0 tabO_nwa (wOpen1_R l0_0 l0_1 l1 r) [] [0, 1, 2, 3] 43 1 Try.func43 fun w bs h => ?_
 have h : wOpen1 n l0_0 l0_1 l1 = some r := h
 unfold wOpen1 at h
 have hT := tabO_nwa
 refine W_block ?_
 refine Vrs hT [0, 1, 2] ⟨[(0, kP 0 0), (1, kU l1), (15, kB false)], [(1000000, kP 0 0)], [⟨.blk, 100, 1, 2, .c [.wh 1, .s (.er 38 .i64 none)]⟩, ⟨.row, 103, 2, 1, .c [.s (.u8 l0_0), .wh 2]⟩, nb 5 l0_1]⟩ ?_
 refine Vi (false) (fun hb => by cases hb) (fun _ => ?_)
 refine W_seq ?_
 obtain ⟨r23, g1, h⟩ := bind_some' h
 rcases Bool.eq_false_or_eq_true (!r23) with g2 | g2
 ·replace h := bif_t h g2
  refine Vg hT (fT 1 (tvalid_ok n r23) fN) [(3, true)] [] [0, 1, 2] ⟨[(0, kP 0 0), (1, kU l1), (21, kB true)], [(1000000, kP 0 0)], [⟨.blk, 100, 1, 2, .c [.wh 1, .s (.er 38 .i64 none)]⟩, ⟨.row, 103, 2, 1, .c [.s (.u8 l0_0), .wh 2]⟩, nb 5 l0_1]⟩ (aP g1 (aP g2 aN)) ?_
  refine Vi (true) (fun _ => ?_) (fun hb => by cases hb)
  cases h
 ·replace h := bif_f h g2
  obtain ⟨r27, g3, h⟩ := bind_some' h
  refine Vg hT (fT 1 (tvalid_ok n r23) (fT 5 (tisW_ok n r27) fN)) [(3, false)] [] [0, 1, 2] ⟨[(0, kP 0 0), (1, kU l1), (21, kB (!r27))], [(1000000, kP 0 0)], [⟨.blk, 100, 1, 2, .c [.wh 1, .s (.er 38 .i64 none)]⟩, ⟨.row, 103, 2, 1, .c [.s (.u8 l0_0), .wh 2]⟩, nb 5 l0_1]⟩ (aP g1 (aP g2 (aP g3 aN))) ?_
  refine Vi ((!r27)) (fun g5 => ?_) (fun g5 => ?_)
  ·replace h := bif_t h g5
   cases h
  ·replace h := bif_f h g5
   refine Vrs hT [0, 1, 2] ⟨[(0, kP 0 0), (1, kU l1), (33, kB false)], [(1000000, kP 0 0)], [⟨.blk, 100, 1, 2, .c [.wh 1, .s (.er 38 .i64 none)]⟩, ⟨.row, 103, 2, 1, .c [.s (.u8 l0_0), .wh 2]⟩, nb 5 l0_1]⟩ ?_
   refine Vi (false) (fun hb => by cases hb) (fun _ => ?_)
   obtain ⟨g4, h⟩ := gd_some h
   refine Vg hT fN [] [.nlc 4 3 5 1 (.b []) none] [0, 4, 2, 5] (wOpen1_R l0_0 l0_1 l1 ()) (aP g4 aN) ?_
   exact ⟨.inr rfl, by cases h; rfl⟩
def wadd1_R (a0_0 : UInt8) (r : List UInt8) : S := ⟨[], [(1000000, kP 0 0)], [⟨.blk, 100, 1, 2, .c [.wh 1, .s (.er 38 .i64 none)]⟩, ⟨.row, 103, 2, 1, .c [.s (.u8 a0_0), .wh 2]⟩, nb 5 r]⟩
def wadd1_ct (n : Nat) (r : List UInt8) : CtM := ctM (cmm (mP 100 (mC (mR 103 2 1 (mC mU8 (mC (mB 5) mN))) (mC (mE0 38) mN))) fun y0 => cmc rU8.rd fun l1 => cmb fun l2 => cmR (wadd1 n y0.1.1 y0.1.2.1 l1 l2 = some r) (.t []) [⟨.blk, 100, 1, 2, .c [.wh 0, .s (.er 38 .i64 none)]⟩] [⟨.row, 103, 2, 1, .c [.s (.u8 y0.1.1), .wh 1]⟩, nb 5 r])
theorem wadd1_ok (n : Nat) (r : List UInt8) : FnMOk Try.prog 72 (wadd1_ct n r) := by
 refine fnokM Try.func72 ?_
 refine HM_m (mP 100 (mC (mR 103 2 1 (mC mU8 (mC (mB 5) mN))) (mC (mE0 38) mN))) (fun (p0 : ((((UInt8) × (List UInt8) × Unit)) × (Unit) × Unit)) => ?_) (allOwn_ok rfl)
 obtain ⟨⟨l0_0, l0_1, _⟩, _, _⟩ := p0
 refine HM_c rU8 fun l1 _ => HM_b 5 fun l2 => HM_0 tabO_nwa (wadd1_R l0_0 r) [] [0, 1, 2] 43 1 Try.func72 fun w bs h => ?_
 have h : wadd1 n l0_0 l0_1 l1 l2 = some r := h
 unfold wadd1 at h
 have hT := tabO_nwa
 obtain ⟨r13, g1, h⟩ := bind_some' h
 refine Vgs hT (fT 3 (tHead_ok n r13) fN) [] [] [0, 1, 2, 3, 4] ⟨[(0, kP 0 0), (2, kH 3), (6, kH 4), (7, kE 38 r13.2)], [(1000000, kP 0 0)], [⟨.blk, 100, 1, 2, .c [.wh 1, .s (.er 38 .i64 none)]⟩, ⟨.row, 103, 2, 1, .c [.s (.u8 l0_0), .wh 2]⟩, nb 5 l0_1, ob 5 l2, nb 5 r13.1]⟩ (aP g1 aN) ?_
 refine W_seq ?_
 refine Vrs hT [0, 1, 2, 3, 4] ⟨[(0, kP 0 0), (2, kH 3), (6, kH 4), (7, kE 38 r13.2), (17, kB (!((r13.2).isNone)))], [(1000000, kP 0 0)], [⟨.blk, 100, 1, 2, .c [.wh 1, .s (.er 38 .i64 none)]⟩, ⟨.row, 103, 2, 1, .c [.s (.u8 l0_0), .wh 2]⟩, nb 5 l0_1, ob 5 l2, nb 5 r13.1]⟩ ?_
 refine Vi ((!((r13.2).isNone))) (fun g9 => ?_) (fun g9 => ?_)
 ·replace h := bif_t h g9
  refine W_seq ?_
  cases h
 ·replace h := bif_f h g9
  refine W_skip ?_
  obtain ⟨g2, g3, g4, h⟩ := gd3 h
  refine Vds hT fN 10 [] [(2, false), (6, false), (24, false), (30, false)] [] [0, 1, 2, 3, 4] ⟨[(2, kH 3), (6, kH 4), (8, kP 1 0)], [(1000000, kP 0 0)], [⟨.blk, 100, 1, 2, .c [.wh 1, .s (.er 38 .i64 none)]⟩, ⟨.row, 103, 2, 1, .c [.s (.u8 l0_0), .wh 2]⟩, nb 5 l0_1, ob 5 l2, nb 5 r13.1]⟩ (aP g2 (aP g3 (aP g4 aN))) ?_
  obtain ⟨g5, g6, g7, g8, h⟩ := gd4 h
  refine Vg hT fN [] [] [0, 1, 6] (wadd1_R l0_0 ((l0_1 ++ r13.1) ++ l2)) (aP g5 (aP g6 (aP g7 (aP g8 aN)))) ?_
  exact ⟨.inr rfl, by cases h; rfl⟩
def wadd2_R (a0_0 : UInt8) (a0_1 : List UInt8) (a0_2 : UInt8) (r : List UInt8) : S := ⟨[], [(1000000, kP 0 0)], [⟨.blk, 100, 1, 2, .c [.wh 1, .s (.er 38 .i64 none)]⟩, ⟨.row, 103, 2, 2, .c [.s (.u8 a0_0), .wh 2, .s (.u8 a0_2), .wh 3]⟩, nb 5 a0_1, nb 5 r]⟩
def wadd2_ct (n : Nat) (r : List UInt8) : CtM := ctM (cmm (mP 100 (mC (mR 103 2 2 (mC mU8 (mC (mB 5) (mC mU8 (mC (mB 5) mN))))) (mC (mE0 38) mN))) fun y0 => cmc rU8.rd fun l1 => cmb fun l2 => cmR (wadd2 n y0.1.1 y0.1.2.1 y0.1.2.2.1 y0.1.2.2.2.1 l1 l2 = some r) (.t []) [⟨.blk, 100, 1, 2, .c [.wh 0, .s (.er 38 .i64 none)]⟩] [⟨.row, 103, 2, 2, .c [.s (.u8 y0.1.1), .wh 1, .s (.u8 y0.1.2.2.1), .wh 2]⟩, nb 5 y0.1.2.1, nb 5 r])
theorem wadd2_ok (n : Nat) (r : List UInt8) : FnMOk Try.prog 72 (wadd2_ct n r) := by
 refine fnokM Try.func72 ?_
 refine HM_m (mP 100 (mC (mR 103 2 2 (mC mU8 (mC (mB 5) (mC mU8 (mC (mB 5) mN))))) (mC (mE0 38) mN))) (fun (p0 : ((((UInt8) × (List UInt8) × (UInt8) × (List UInt8) × Unit)) × (Unit) × Unit)) => ?_) (allOwn_ok rfl)
 obtain ⟨⟨l0_0, l0_1, l0_2, l0_3, _⟩, _, _⟩ := p0
 refine HM_c rU8 fun l1 _ => HM_b 5 fun l2 => HM_0 tabO_nwa (wadd2_R l0_0 l0_1 l0_2 r) [] [0, 1, 2, 3] 43 1 Try.func72 fun w bs h => ?_
 have h : wadd2 n l0_0 l0_1 l0_2 l0_3 l1 l2 = some r := h
 unfold wadd2 at h
 have hT := tabO_nwa
 obtain ⟨r13, g1, h⟩ := bind_some' h
 refine Vgs hT (fT 3 (tHead_ok n r13) fN) [] [] [0, 1, 2, 3, 4, 5] ⟨[(0, kP 0 0), (2, kH 4), (6, kH 5), (7, kE 38 r13.2)], [(1000000, kP 0 0)], [⟨.blk, 100, 1, 2, .c [.wh 1, .s (.er 38 .i64 none)]⟩, ⟨.row, 103, 2, 2, .c [.s (.u8 l0_0), .wh 2, .s (.u8 l0_2), .wh 3]⟩, nb 5 l0_1, nb 5 l0_3, ob 5 l2, nb 5 r13.1]⟩ (aP g1 aN) ?_
 refine W_seq ?_
 refine Vrs hT [0, 1, 2, 3, 4, 5] ⟨[(0, kP 0 0), (2, kH 4), (6, kH 5), (7, kE 38 r13.2), (17, kB (!((r13.2).isNone)))], [(1000000, kP 0 0)], [⟨.blk, 100, 1, 2, .c [.wh 1, .s (.er 38 .i64 none)]⟩, ⟨.row, 103, 2, 2, .c [.s (.u8 l0_0), .wh 2, .s (.u8 l0_2), .wh 3]⟩, nb 5 l0_1, nb 5 l0_3, ob 5 l2, nb 5 r13.1]⟩ ?_
 refine Vi ((!((r13.2).isNone))) (fun g9 => ?_) (fun g9 => ?_)
 ·replace h := bif_t h g9
  refine W_seq ?_
  cases h
 ·replace h := bif_f h g9
  refine W_skip ?_
  obtain ⟨g2, g3, g4, h⟩ := gd3 h
  refine Vds hT fN 10 [] [(2, false), (6, false), (24, false), (30, false)] [] [0, 1, 2, 3, 4, 5] ⟨[(2, kH 4), (6, kH 5), (8, kP 1 2)], [(1000000, kP 0 0)], [⟨.blk, 100, 1, 2, .c [.wh 1, .s (.er 38 .i64 none)]⟩, ⟨.row, 103, 2, 2, .c [.s (.u8 l0_0), .wh 2, .s (.u8 l0_2), .wh 3]⟩, nb 5 l0_1, nb 5 l0_3, ob 5 l2, nb 5 r13.1]⟩ (aP g2 (aP g3 (aP g4 aN))) ?_
  obtain ⟨g5, g6, g7, g8, h⟩ := gd4 h
  refine Vg hT fN [] [] [0, 1, 2, 7] (wadd2_R l0_0 l0_1 l0_2 ((l0_3 ++ r13.1) ++ l2)) (aP g5 (aP g6 (aP g7 (aP g8 aN)))) ?_
  exact ⟨.inr rfl, by cases h; rfl⟩
def wPut2_R (a0_0 : UInt8) (a0_1 : List UInt8) (a0_2 : UInt8) (r : List UInt8) : S := ⟨[], [(1000000, kP 0 0)], [⟨.blk, 100, 1, 2, .c [.wh 1, .s (.er 38 .i64 none)]⟩, ⟨.row, 103, 2, 2, .c [.s (.u8 a0_0), .wh 2, .s (.u8 a0_2), .wh 3]⟩, nb 5 a0_1, nb 5 r]⟩
def wPut2_ct (n : Nat) (r : List UInt8) : CtM := ctM (cmm (mP 100 (mC (mR 103 2 2 (mC mU8 (mC (mB 5) (mC mU8 (mC (mB 5) mN))))) (mC (mE0 38) mN))) fun y0 => cmc rU8.rd fun l1 => cmb fun l2 => cmR (wPut2 n y0.1.1 y0.1.2.1 y0.1.2.2.1 y0.1.2.2.2.1 l1 l2 = some r) (.t []) [⟨.blk, 100, 1, 2, .c [.wh 0, .s (.er 38 .i64 none)]⟩] [⟨.row, 103, 2, 2, .c [.s (.u8 y0.1.1), .wh 1, .s (.u8 y0.1.2.2.1), .wh 2]⟩, nb 5 y0.1.2.1, nb 5 r])
theorem wPut2_ok (n : Nat) (r : List UInt8) : FnMOk Try.prog 44 (wPut2_ct n r) := by
 refine fnokM Try.func44 ?_
 refine HM_m (mP 100 (mC (mR 103 2 2 (mC mU8 (mC (mB 5) (mC mU8 (mC (mB 5) mN))))) (mC (mE0 38) mN))) (fun (p0 : ((((UInt8) × (List UInt8) × (UInt8) × (List UInt8) × Unit)) × (Unit) × Unit)) => ?_) (allOwn_ok rfl)
 obtain ⟨⟨l0_0, l0_1, l0_2, l0_3, _⟩, _, _⟩ := p0
 refine HM_c rU8 fun l1 _ => HM_b 5 fun l2 => HM_0 tabO_nwa (wPut2_R l0_0 l0_1 l0_2 r) [] [0, 1, 2, 3] 27 1 Try.func44 fun w bs h => ?_
 have h : wPut2 n l0_0 l0_1 l0_2 l0_3 l1 l2 = some r := h
 unfold wPut2 at h
 have hT := tabO_nwa
 refine W_block ?_
 refine Vrs hT [0, 1, 2, 3, 4] ⟨[(0, kP 0 0), (1, kU l1), (2, kH 4), (10, kB false)], [(1000000, kP 0 0)], [⟨.blk, 100, 1, 2, .c [.wh 1, .s (.er 38 .i64 none)]⟩, ⟨.row, 103, 2, 2, .c [.s (.u8 l0_0), .wh 2, .s (.u8 l0_2), .wh 3]⟩, nb 5 l0_1, nb 5 l0_3, ob 5 l2]⟩ ?_
 refine Vi (false) (fun hb => by cases hb) (fun _ => ?_)
 refine W_seq ?_
 obtain ⟨r18, g1, h⟩ := bind_some' h
 rcases Bool.eq_false_or_eq_true (!r18) with g2 | g2
 ·replace h := bif_t h g2
  refine Vg hT (fT 1 (tvalid_ok n r18) fN) [(3, true)] [] [0, 1, 2, 3, 4] ⟨[(0, kP 0 0), (1, kU l1), (2, kH 4), (16, kB true)], [(1000000, kP 0 0)], [⟨.blk, 100, 1, 2, .c [.wh 1, .s (.er 38 .i64 none)]⟩, ⟨.row, 103, 2, 2, .c [.s (.u8 l0_0), .wh 2, .s (.u8 l0_2), .wh 3]⟩, nb 5 l0_1, nb 5 l0_3, ob 5 l2]⟩ (aP g1 (aP g2 aN)) ?_
  refine Vi (true) (fun _ => ?_) (fun hb => by cases hb)
  cases h
 ·replace h := bif_f h g2
  obtain ⟨r22, g3, h⟩ := bind_some' h
  refine Vg hT (fT 1 (tvalid_ok n r18) (fT 5 (tisW_ok n r22) fN)) [(3, false)] [] [0, 1, 2, 3, 4] ⟨[(0, kP 0 0), (1, kU l1), (2, kH 4), (16, kB r22)], [(1000000, kP 0 0)], [⟨.blk, 100, 1, 2, .c [.wh 1, .s (.er 38 .i64 none)]⟩, ⟨.row, 103, 2, 2, .c [.s (.u8 l0_0), .wh 2, .s (.u8 l0_2), .wh 3]⟩, nb 5 l0_1, nb 5 l0_3, ob 5 l2]⟩ (aP g1 (aP g2 (aP g3 aN))) ?_
  refine Vi (r22) (fun g5 => ?_) (fun g5 => ?_)
  ·replace h := bif_t h g5
   cases h
  ·replace h := bif_f h g5
   obtain ⟨r9, g4, h⟩ := bind_some' h
   refine Vg hT (fM 3 (wadd2_ok n r9) fN) [] [] [0, 5, 6, 7] (wPut2_R l0_0 l0_1 l0_2 r9) (aP g4 aN) ?_
   exact ⟨.inr rfl, by cases h; rfl⟩
def wClose2_R (a0_0 : UInt8) (r : List UInt8) : S := ⟨[], [(1000000, kP 0 0)], [⟨.blk, 100, 1, 2, .c [.wh 1, .s (.er 38 .i64 none)]⟩, ⟨.row, 103, 2, 1, .c [.s (.u8 a0_0), .wh 2]⟩, nb 5 r]⟩
def wClose2_ct (n : Nat) (r : List UInt8) : CtM := ctM (cmm (mP 100 (mC (mR 103 2 2 (mC mU8 (mC (mB 5) (mC mU8 (mC (mB 5) mN))))) (mC (mE0 38) mN))) fun y0 => cmR (wClose2 n y0.1.1 y0.1.2.1 y0.1.2.2.1 y0.1.2.2.2.1 = some r) (.t []) [⟨.blk, 100, 1, 2, .c [.wh 0, .s (.er 38 .i64 none)]⟩] [⟨.row, 103, 2, 1, .c [.s (.u8 y0.1.1), .wh 1]⟩, nb 5 r])
theorem wClose2_ok (n : Nat) (r : List UInt8) : FnMOk Try.prog 45 (wClose2_ct n r) := by
 refine fnokM Try.func45 ?_
 refine HM_m (mP 100 (mC (mR 103 2 2 (mC mU8 (mC (mB 5) (mC mU8 (mC (mB 5) mN))))) (mC (mE0 38) mN))) (fun (p0 : ((((UInt8) × (List UInt8) × (UInt8) × (List UInt8) × Unit)) × (Unit) × Unit)) => ?_) (allOwn_ok rfl)
 obtain ⟨⟨l0_0, l0_1, l0_2, l0_3, _⟩, _, _⟩ := p0
 refine HM_0 tabO_nwa (wClose2_R l0_0 r) [] [0, 1, 2] 51 1 Try.func45 fun w bs h => ?_
 have h : wClose2 n l0_0 l0_1 l0_2 l0_3 = some r := h
 unfold wClose2 at h
 have hT := tabO_nwa
 refine W_block ?_
 refine Vrs hT [0, 1, 2, 3] ⟨[(0, kP 0 0), (35, kB false)], [(1000000, kP 0 0)], [⟨.blk, 100, 1, 2, .c [.wh 1, .s (.er 38 .i64 none)]⟩, ⟨.row, 103, 2, 2, .c [.s (.u8 l0_0), .wh 2, .s (.u8 l0_2), .wh 3]⟩, nb 5 l0_1, nb 5 l0_3]⟩ ?_
 refine Vi (false) (fun hb => by cases hb) (fun _ => ?_)
 refine Vrs hT [0, 1, 2, 3] ⟨[(0, kP 0 0), (41, kB false)], [(1000000, kP 0 0)], [⟨.blk, 100, 1, 2, .c [.wh 1, .s (.er 38 .i64 none)]⟩, ⟨.row, 103, 2, 2, .c [.s (.u8 l0_0), .wh 2, .s (.u8 l0_2), .wh 3]⟩, nb 5 l0_1, nb 5 l0_3]⟩ ?_
 refine Vi (false) (fun hb => by cases hb) (fun _ => ?_)
 obtain ⟨g1, g2, g3, g4, h⟩ := gd4 h
 refine Vds hT fN 13 [] [(0, false), (2, false), (14, false)] [] [0, 1, 2, 3, 4] ⟨[(0, kP 0 0), (2, kP 4 0)], [(1000000, kP 0 0)], [⟨.blk, 100, 1, 2, .c [.wh 1, .s (.er 38 .i64 none)]⟩, ⟨.row, 103, 2, 2, .c [.s (.u8 l0_0), .wh 2, .s (.u8 l0_2), .wh 3]⟩, nb 5 l0_1, nb 5 l0_3, ⟨.blk, 103, 1, 2, .c [.s (.u8 l0_2), .wh 3]⟩]⟩ (aP g1 (aP g2 (aP g3 (aP g4 aN)))) ?_
 obtain ⟨g5, g6, g7, h⟩ := gd3 h
 refine Vds hT fN 13 [] [(0, false), (2, false), (26, false), (27, false)] [.cut 0 0] [0, 5, 2, 4, 3] ⟨[(0, kP 0 0), (2, kP 3 0)], [(1000000, kP 0 0)], [⟨.blk, 100, 1, 2, .c [.wh 1, .s (.er 38 .i64 none)]⟩, ⟨.row, 103, 2, 1, .c [.s (.u8 l0_0), .wh 2]⟩, nb 5 l0_1, ⟨.blk, 103, 1, 2, .c [.s (.u8 l0_2), .wh 4]⟩, nb 5 l0_3]⟩ (aP g5 (aP g6 (aP g7 aN))) ?_
 obtain ⟨r34, g8, h⟩ := bind_some' h
 refine Vg hT (fM 5 (wadd1_ok n r34) fN) [] [] [0, 5, 6] (wClose2_R l0_0 r34) (aP g8 aN) ?_
 exact ⟨.inr rfl, by cases h; rfl⟩
def wBytes1_R (a0_0 : UInt8) (a0_1 : List UInt8) (r : Unit) : S := ⟨[(2, kH 3), (3, kE 38 none)], [(1000000, kP 0 0)], [⟨.blk, 100, 1, 2, .c [.wh 1, .s (.er 38 .i64 none)]⟩, ⟨.row, 103, 2, 1, .c [.s (.u8 a0_0), .wh 2]⟩, nb 5 a0_1, nb 5 a0_1]⟩
def wBytes1_ct (n : Nat) (r : Unit) : CtM := ctM (cmm (mP 100 (mC (mR 103 2 1 (mC mU8 (mC (mB 5) mN))) (mC (mE0 38) mN))) fun y0 => cmR (wBytes1 n y0.1.1 y0.1.2.1 = some r) (.t [.c (.wh 2), .c (.s (.er 38 .i64 none))]) [⟨.blk, 100, 1, 2, .c [.wh 0, .s (.er 38 .i64 none)]⟩] [⟨.row, 103, 2, 1, .c [.s (.u8 y0.1.1), .wh 1]⟩, nb 5 y0.1.2.1, nb 5 y0.1.2.1])
theorem wBytes1_ok (n : Nat) (r : Unit) : FnMOk Try.prog 46 (wBytes1_ct n r) := by
 refine fnokM Try.func46 ?_
 refine HM_m (mP 100 (mC (mR 103 2 1 (mC mU8 (mC (mB 5) mN))) (mC (mE0 38) mN))) (fun (p0 : ((((UInt8) × (List UInt8) × Unit)) × (Unit) × Unit)) => ?_) (allOwn_ok rfl)
 obtain ⟨⟨l0_0, l0_1, _⟩, _, _⟩ := p0
 refine HM_0 tabO_nwa (wBytes1_R l0_0 l0_1 r) [.tmp 2, .tmp 3] [0, 1, 2, 3] 30 1 Try.func46 fun w bs h => ?_
 have h : wBytes1 n l0_0 l0_1 = some r := h
 unfold wBytes1 at h
 have hT := tabO_nwa
 refine Vrs hT [0, 1, 2] ⟨[(0, kP 0 0)], [(1000000, kP 0 0)], [⟨.blk, 100, 1, 2, .c [.wh 1, .s (.er 38 .i64 none)]⟩, ⟨.row, 103, 2, 1, .c [.s (.u8 l0_0), .wh 2]⟩, nb 5 l0_1]⟩ ?_
 refine W_seq ?_
 refine W_block ?_
 refine Vrs hT [0, 1, 2] ⟨[(0, kP 0 0), (4, kB false)], [(1000000, kP 0 0)], [⟨.blk, 100, 1, 2, .c [.wh 1, .s (.er 38 .i64 none)]⟩, ⟨.row, 103, 2, 1, .c [.s (.u8 l0_0), .wh 2]⟩, nb 5 l0_1]⟩ ?_
 refine Vi (false) (fun hb => by cases hb) (fun _ => ?_)
 refine Vrs hT [0, 1, 2] ⟨[(0, kP 0 0), (14, kB false)], [(1000000, kP 0 0)], [⟨.blk, 100, 1, 2, .c [.wh 1, .s (.er 38 .i64 none)]⟩, ⟨.row, 103, 2, 1, .c [.s (.u8 l0_0), .wh 2]⟩, nb 5 l0_1]⟩ ?_
 refine Vi (false) (fun hb => by cases hb) (fun _ => ?_)
 refine W_skip ?_
 obtain ⟨g1, g2, g3, g4, h⟩ := gd4 h
 refine Vgs hT (fT 7 cloneb_h fN) [] [] [0, 1, 2, 3] ⟨[(2, kH 3), (3, .c (.s (.v .nilIface)))], [(1000000, kP 0 0)], [⟨.blk, 100, 1, 2, .c [.wh 1, .s (.er 38 .i64 none)]⟩, ⟨.row, 103, 2, 1, .c [.s (.u8 l0_0), .wh 2]⟩, nb 5 l0_1, nb 5 l0_1]⟩ (aP g1 (aP g2 (aP g3 (aP g4 aN)))) ?_
 refine Vc [.er 3 38 .i64] [0, 1, 2, 3] (wBytes1_R l0_0 l0_1 ()) (W_ret ?_)
 exact ⟨.inl rfl, by cases h; rfl⟩
end Go.Proofs.Ytobfglafchoipaa
end
section
namespace Go.Proofs.Ytobfglafchoipaa
open Go.RowKit Go.Ch Go.Sx Go.Lib Go.Proofs
theorem bytesOf_sl {P : Program} (w : World) {B : Nat} {v : Value} {l : List UInt8} (hv : Sl w B v (l.map bU)) : (Extern.Bytes.bytesOf v).run P w = .ok ⟨l.toArray⟩ w := by
 obtain ⟨_, A, c, rfl, _, _, _, h4⟩ := hv
 cases A with
 | none =>
  have hl : l = [] := by
   cases l with
   | nil => rfl
   | cons x l => have h1 := ‹(List.map bU (x :: l)).length ≤ c›; have h2 := ‹(none : Option Addr) = none → c = 0› rfl; simp at h1; omega
  subst hl
  simp [Extern.Bytes.bytesOf]; rfl
 | some a =>
  have e : l.map bU = (l.map fun x => ((x.toNat : Nat) : Int)).map (Value.int .u8) := by simp [bU, Function.comp_def]
  have h := run_loadBytesX (P := P) w (l.map fun x => ((x.toNat : Nat) : Int)) a .empty (fun j x hx => (h4 a rfl j _ (by rw [e, List.getElem?_map, hx]; rfl)).2)
  simp only [Extern.Bytes.bytesOf, List.length_map] at h ⊢
  rw [h]
  congr 1
  apply ByteArray.ext
  have e2 : Go.Lib.bytesOf (l.map fun x => ((x.toNat : Nat) : Int)) = l := by
   unfold Go.Lib.bytesOf
   rw [List.map_map]
   conv => rhs; rw [← List.map_id l]
   apply List.map_congr_left; intro x _; simp
  rw [e2]
  simp
set_option maxHeartbeats 1000000 in
set_option maxRecDepth 100000 in
theorem cmp_c (w : World) (B0 B1 : Nat) (v0 v1 : Value) (l0 l1 : List UInt8) (h0 : Sl w B0 v0 (l0.map bU)) (h1 : Sl w B1 v1 (l1.map bU)) :
  Calls Try.prog 27 #[v0, v1] w (Ret fun v w' => Ext w w' ∧ v = .int .i64 (Lib.compareBytes l0 l1)) := by
 go_enter Try.func27, Try.ntmps27
 go_wp2
 rw [run_callFunc_extern Try.func47 (by kernel_rfl) (by kernel_rfl) (by kernel_rfl) (e := Extern.BytealgCompare.compare) (by kernel_rfl)]
 have hr : (Extern.BytealgCompare.compare #[v0, v1]).run Try.prog w = .ok (.int .i64 (Lib.compareBytes l0 l1)) w := by
  change Sem.run Try.prog (do pure (goInt (Extern.BytealgCompare.cmp (← Extern.Bytes.bytesOf v0) (← Extern.Bytes.bytesOf v1)))) w = _
  simp only [Sem.run_bind, bytesOf_sl w h0, bytesOf_sl w h1, Sem.run_pure, Result.andThen]
  rw [cmp_eq]
  rfl
 rw [hr]
 simp only [Result.andThen]
 rw [Oper.upon_value]
 go_wp2
 go_ret
 exact ⟨_, rfl, Below.refl _ _, rfl⟩
def cmp_ct : Ct := ctc aB fun _ l0 => ctc aB fun _ l1 => ct0 fun _ => ([], kI (Lib.compareBytes l0 l1), [])
theorem cmp_h : FnOk Try.prog Tr 27 cmp_ct := by
 refine ⟨fun args H g av objs hF hg ρ w vals hG hp ha => ?_, _, Try.func27, by kernel_rfl, by kernel_rfl⟩
 obtain ⟨x0, _, l0, rfl, e0, hF⟩ := ctc_inv hF
 obtain ⟨x1, _, l1, rfl, e1, hF⟩ := ctc_inv hF
 obtain ⟨rfl, rfl, rfl, rfl⟩ := ct0_inv hF
 obtain ⟨v0, vals, rfl, k0, ha⟩ := F2.inv ha
 obtain ⟨v1, vals, rfl, k1, ha⟩ := F2.inv ha
 obtain rfl := F2.inv0 ha
 obtain ⟨p0, hI0⟩ := aB_ok hp e0 k0 5
 obtain ⟨p1, hI1⟩ := aB_ok hp e1 k1 5
 exact calls_mono (cmp_c w _ _ v0 v1 l0 l1 (hI0.sl (fun _ _ h => csR_b.1 h) (by simp)) (hI1.sl (fun _ _ h => csR_b.1 h) (by simp))) fun v w' ⟨hx, hv⟩ => ⟨hx, left_val fun ρ => hv⟩
end Go.Proofs.Ytobfglafchoipaa
end
section
namespace Go.Proofs.Ytobfglafchoipaa
open Go.RowKit Go.Ch Go.Sx
def tabL_nma : List (TypeId × Ti) := [(3, ⟨.int .i64, 1, 8, true, some [.int .i64]⟩),
 (5, ⟨.int .u8, 1, 1, true, some [.int .u8]⟩),
 (9, ⟨.str, 1, 16, true, some [.str]⟩),
 (22, ⟨.sl 5, 1, 24, false, some [.nils]⟩),
 (27, ⟨.sl 47, 1, 24, false, some [.nils]⟩),
 (32, ⟨.ifc, 1, 16, true, some [.ifc]⟩),
 (38, ⟨.int .i64, 1, 8, true, some [.int .i64]⟩),
 (44, ⟨.sl 92, 1, 24, false, some [.nils]⟩),
 (46, ⟨.st [(44, 0), (5, 1), (22, 2)], 3, 56, false, some [.nils, .int .u8, .nils]⟩),
 (47, ⟨.sl 46, 1, 24, false, some [.nils]⟩),
 (92, ⟨.int .u32, 1, 4, true, some [.int .u32]⟩)]
def tab_nma : Tab := fun t => (tabL_nma).lookup t
theorem tabE_nma : (tabL_nma.map fun p => tiOf Try.prog p.1) = tabL_nma.map fun p => some p.2 := by kernel_rfl
theorem tabO_nma : TabOk Try.prog tab_nma := tab_of tabE_nma
def nAttr (n : Nat) (a0_0 : List UInt32) (a0_1 : UInt8) (a0_2 : List UInt8) : Option (List UInt8 × Option Int) :=
 (pOid n a0_0).bind fun r10 =>
 bif (!((r10.2).isNone)) then
  some ([], (some 1))
 else
  bif (a0_1 != 12) then
   bif (a0_1 != 19) then
    some ([], (some 1))
   else
    bif (decide (((a0_2.length : Nat) : Int) < (1 : Int))) then
     some ([], (some 1))
    else
     bif (decide ((64 : Int) < ((a0_2.length : Nat) : Int))) then
      some ([], (some 1))
     else
      (pText n a0_1 a0_2).bind fun r42 =>
      bif (!((r42).isNone)) then
       some ([], (some 1))
      else
       (wNew n).bind fun r46 =>
       (wOpen1 n 0 [] 48).bind fun r48 =>
       (wPut2 n 0 [] 48 [] 6 r10.1).bind fun r51 =>
       (wPut2 n 0 [] 48 r51 a0_1 a0_2).bind fun r57 =>
       (wClose2 n 0 [] 48 r57).bind fun r59 =>
       (wBytes1 n 0 r59).bind fun r61 =>
       some (r59, none)
  else
   bif (decide (((a0_2.length : Nat) : Int) < (1 : Int))) then
    some ([], (some 1))
   else
    bif (decide ((64 : Int) < ((a0_2.length : Nat) : Int))) then
     some ([], (some 1))
    else
     (pText n a0_1 a0_2).bind fun r42 =>
     bif (!((r42).isNone)) then
      some ([], (some 1))
     else
      (wNew n).bind fun r46 =>
      (wOpen1 n 0 [] 48).bind fun r48 =>
      (wPut2 n 0 [] 48 [] 6 r10.1).bind fun r51 =>
      (wPut2 n 0 [] 48 r51 a0_1 a0_2).bind fun r57 =>
      (wClose2 n 0 [] 48 r57).bind fun r59 =>
      (wBytes1 n 0 r59).bind fun r61 =>
      some (r59, none)
def nWrite_l2 (n : Nat) (a0 : List (List (List UInt32 × (UInt8 × List UInt8)))) (l4_1 : List UInt8) (i23_1 : Int) (k_l1 : (List UInt8) → Int → Option (List UInt8 × Option Int)) : Nat → List UInt8 → List UInt8 → Int → Option (List UInt8 × Option Int)
 | 0, _, _, _ => none
 | fu_l2 + 1, l7_5, l8_5, i38_5 =>
  bif (decide (i38_5 < (((a0.getD i23_1.toNat []).length : Nat) : Int))) then
   gd (0 ≤ i38_5) <|
   gd (i38_5 < (((a0.getD i23_1.toNat []).length : Nat) : Int)) <|
   (nAttr n (((a0.getD i23_1.toNat []).getD i38_5.toNat ([], (0, []))).1) (((a0.getD i23_1.toNat []).getD i38_5.toNat ([], (0, []))).2.1) (((a0.getD i23_1.toNat []).getD i38_5.toNat ([], (0, []))).2.2)).bind fun r45_8 =>
   bif (!((r45_8.2).isNone)) then
    some ([], (some 1))
   else
    bif (decide ((0 : Int) < i38_5)) then
     bif (decide ((0 : Int) ≤ (Lib.compareBytes l8_5 r45_8.1))) then
      some ([], (some 1))
     else
      gd (rmB (l7_5.length + r45_8.1.length) 1) <|
      gd (okI .i64 (i38_5 + 1)) <|
      (nWrite_l2 n a0 l4_1 i23_1 k_l1 fu_l2) (l7_5 ++ r45_8.1) r45_8.1 (i38_5 + 1)
    else
     gd (rmB (l7_5.length + r45_8.1.length) 1) <|
     gd (okI .i64 (i38_5 + 1)) <|
     (nWrite_l2 n a0 l4_1 i23_1 k_l1 fu_l2) (l7_5 ++ r45_8.1) r45_8.1 (i38_5 + 1)
  else
   (tHead n 49 ((l7_5.length : Nat) : Int)).bind fun r69_5 =>
   bif (!((r69_5.2).isNone)) then
    some ([], (some 1))
   else
    gd (rmB (l4_1.length + r69_5.1.length) 1) <|
    gd (rmB (((l4_1 ++ r69_5.1).length) + l7_5.length) 1) <|
    gd (okI .i64 (i23_1 + 1)) <|
    k_l1 ((l4_1 ++ r69_5.1) ++ l7_5) (i23_1 + 1)
def nWrite_l1 (n : Nat) (a0 : List (List (List UInt32 × (UInt8 × List UInt8)))) : Nat → List UInt8 → Int → Option (List UInt8 × Option Int)
 | 0, _, _ => none
 | fu_l1 + 1, l4_1, i23_1 =>
  bif (decide (i23_1 < ((a0.length : Nat) : Int))) then
   gd (0 ≤ i23_1) <|
   gd (i23_1 < ((a0.length : Nat) : Int)) <|
   bif (decide ((((a0.getD i23_1.toNat []).length : Nat) : Int) < (1 : Int))) then
    some ([], (some 1))
   else
    bif (decide ((4 : Int) < (((a0.getD i23_1.toNat []).length : Nat) : Int))) then
     some ([], (some 1))
    else
     nWrite_l2 n a0 l4_1 i23_1 (nWrite_l1 n a0 fu_l1) n [] [] 0
  else
   (tHead n 48 ((l4_1.length : Nat) : Int)).bind fun r84_1 =>
   bif (!((r84_1.2).isNone)) then
    some ([], (some 1))
   else
    gd (rmB (r84_1.1.length + l4_1.length) 1) <|
    some ((r84_1.1 ++ l4_1), none)
def nWrite (n : Nat) (a0 : List (List (List UInt32 × (UInt8 × List UInt8)))) : Option (List UInt8 × Option Int) :=
 bif (decide ((8 : Int) < ((a0.length : Nat) : Int))) then
 some ([], (some 1))
 else
 nWrite_l1 n a0 n [] 0
def nCheck (n : Nat) (a0 : List (List (List UInt32 × (UInt8 × List UInt8)))) : Option (Option Int) :=
 (nWrite n a0).bind fun r7 =>
 some r7.2
def rHead (n : Nat) (a0 : UInt8) (a1 : Int) : Option (List UInt8) :=
 bif (decide (a1 < (128 : Int))) then
 some [a0, (UInt8.ofInt a1)]
 else
 bif (decide (a1 < (256 : Int))) then
 some [a0, 129, (UInt8.ofInt a1)]
 else
 gd ((256 : Int) ≠ 0) <|
 gd (okI .i64 (Int.tdiv a1 256)) <|
 gd ((256 : Int) ≠ 0) <|
 some [a0, 130, (UInt8.ofInt (Int.tdiv a1 256)), (UInt8.ofInt (Int.tmod a1 256))]
def rEl (n : Nat) (a0 : UInt8) (a1 : List UInt8) : Option (List UInt8) :=
 (rHead n a0 ((a1.length : Nat) : Int)).bind fun r8 =>
 gd (rmB (r8.length + a1.length) 1) <|
 some (r8 ++ a1)
def rAttr (n : Nat) (a0_0 : List UInt32) (a0_1 : UInt8) (a0_2 : List UInt8) : Option (List UInt8 × Bool) :=
 bif (a0_1 != 12) then
  bif (a0_1 != 19) then
   some ([], false)
  else
   bif (decide (((a0_2.length : Nat) : Int) < (1 : Int))) then
    some ([], false)
   else
    bif (decide ((64 : Int) < ((a0_2.length : Nat) : Int))) then
     some ([], false)
    else
     (rOid n a0_0).bind fun r27 =>
     bif (!r27) then
      some ([], false)
     else
      (rText n a0_1 a0_2).bind fun r34 =>
      bif (!r34) then
       some ([], false)
      else
       (rOidBody n a0_0).bind fun r39 =>
       (rEl n 6 r39).bind fun r40 =>
       (rEl n a0_1 a0_2).bind fun r45 =>
       gd (rmB (r40.length + r45.length) 1) <|
       (rEl n 48 (r40 ++ r45)).bind fun r48 =>
       some (r48, true)
 else
  bif (decide (((a0_2.length : Nat) : Int) < (1 : Int))) then
   some ([], false)
  else
   bif (decide ((64 : Int) < ((a0_2.length : Nat) : Int))) then
    some ([], false)
   else
    (rOid n a0_0).bind fun r27 =>
    bif (!r27) then
     some ([], false)
    else
     (rText n a0_1 a0_2).bind fun r34 =>
     bif (!r34) then
      some ([], false)
     else
      (rOidBody n a0_0).bind fun r39 =>
      (rEl n 6 r39).bind fun r40 =>
      (rEl n a0_1 a0_2).bind fun r45 =>
      gd (rmB (r40.length + r45.length) 1) <|
      (rEl n 48 (r40 ++ r45)).bind fun r48 =>
      some (r48, true)
def rWrite_l2 (n : Nat) (a0 : List (List (List UInt32 × (UInt8 × List UInt8)))) (l4_1 : List UInt8) (i5_1 : Int) (k_l1 : (List UInt8) → Int → Option (List UInt8 × Bool)) : Nat → List UInt8 → List UInt8 → Int → Option (List UInt8 × Bool)
 | 0, _, _, _ => none
 | fu_l2 + 1, l6_5, l7_5, i8_5 =>
  gd (0 ≤ i5_1) <|
  gd (i5_1 < ((a0.length : Nat) : Int)) <|
  bif (decide (i8_5 < (((a0.getD i5_1.toNat []).length : Nat) : Int))) then
   gd (0 ≤ i5_1) <|
   gd (i5_1 < ((a0.length : Nat) : Int)) <|
   gd (0 ≤ i8_5) <|
   gd (i8_5 < (((a0.getD i5_1.toNat []).length : Nat) : Int)) <|
   (rAttr n (((a0.getD i5_1.toNat []).getD i8_5.toNat ([], (0, []))).1) (((a0.getD i5_1.toNat []).getD i8_5.toNat ([], (0, []))).2.1) (((a0.getD i5_1.toNat []).getD i8_5.toNat ([], (0, []))).2.2)).bind fun r51_8 =>
   bif (!r51_8.2) then
    some ([], false)
   else
    bif (decide ((0 : Int) < i8_5)) then
     bif (!Op.bytesLess l7_5 r51_8.1) then
      some ([], false)
     else
      gd (rmB (l6_5.length + r51_8.1.length) 1) <|
      gd (okI .i64 (i8_5 + 1)) <|
      (rWrite_l2 n a0 l4_1 i5_1 k_l1 fu_l2) (l6_5 ++ r51_8.1) r51_8.1 (i8_5 + 1)
    else
     gd (rmB (l6_5.length + r51_8.1.length) 1) <|
     gd (okI .i64 (i8_5 + 1)) <|
     (rWrite_l2 n a0 l4_1 i5_1 k_l1 fu_l2) (l6_5 ++ r51_8.1) r51_8.1 (i8_5 + 1)
  else
   (rEl n 49 l6_5).bind fun r73_5 =>
   gd (rmB (l4_1.length + r73_5.length) 1) <|
   gd (okI .i64 (i5_1 + 1)) <|
   k_l1 (l4_1 ++ r73_5) (i5_1 + 1)
def rWrite_l1 (n : Nat) (a0 : List (List (List UInt32 × (UInt8 × List UInt8)))) : Nat → List UInt8 → Int → Option (List UInt8 × Bool)
 | 0, _, _ => none
 | fu_l1 + 1, l4_1, i5_1 =>
  bif (decide (i5_1 < ((a0.length : Nat) : Int))) then
   gd (0 ≤ i5_1) <|
   gd (i5_1 < ((a0.length : Nat) : Int)) <|
   bif (decide ((((a0.getD i5_1.toNat []).length : Nat) : Int) < (1 : Int))) then
    some ([], false)
   else
    gd (0 ≤ i5_1) <|
    gd (i5_1 < ((a0.length : Nat) : Int)) <|
    bif (decide ((4 : Int) < (((a0.getD i5_1.toNat []).length : Nat) : Int))) then
     some ([], false)
    else
     rWrite_l2 n a0 l4_1 i5_1 (rWrite_l1 n a0 fu_l1) n [] ([] : List UInt8) 0
  else
   (rEl n 48 l4_1).bind fun r76_1 =>
   some (r76_1, true)
def rWrite (n : Nat) (a0 : List (List (List UInt32 × (UInt8 × List UInt8)))) : Option (List UInt8 × Bool) :=
 bif (decide ((8 : Int) < ((a0.length : Nat) : Int))) then
 some ([], false)
 else
 rWrite_l1 n a0 n [] 0
def lWrites (n : Nat) (a0 : List (List (List UInt32 × (UInt8 × List UInt8)))) : Option (Bool) :=
 (lup n).bind fun r10 =>
 (light n a0).bind fun r12 =>
 bif (!r12) then
  some r10
 else
  (nCheck n a0).bind fun r17 =>
  (nWrite n a0).bind fun r20 =>
  (rWrite n a0).bind fun r25 =>
  bif (!r25.2) then
   bif r10 then
    gd (¬((r17 : Option Int) = none ∧ ((some 1) : Option Int) = none)) <|
    bif (r17 == (some 1)) then
     gd (¬((r20.2 : Option Int) = none ∧ ((some 1) : Option Int) = none)) <|
     bif (r20.2 == (some 1)) then
      some (((r20.1.length : Nat) : Int) == 0)
     else
      some false
    else
     some false
   else
    some false
  else
   bif r10 then
    bif ((r17).isNone) then
     bif ((r20.2).isNone) then
      some (r20.1 == r25.1)
     else
      some false
    else
     some false
   else
    some false
def nAttr_R (r : List UInt8 × Option Int) : S := ⟨[(2, kH 0), (3, kE 38 r.2)], [], [nb 5 r.1]⟩
def nAttr_ct (n : Nat) (r : List UInt8 × Option Int) : Ct := ctc (rSt (lC (cW 92) (lC cU8 (lC (cB 5) lN)))).rd fun _ y0 => ct0 fun H => ([nAttr n y0.1 y0.2.1 y0.2.2.1 = some r], shA H.length (.t [.c (.wh 0), .c (.s (.er 38 .i64 r.2))]), shH H.length [nb 5 r.1])
theorem nAttr_ok (n : Nat) (r : List UInt8 × Option Int) : FnOk Try.prog Tr 26 (nAttr_ct n r) := by
 refine fnok Try.func26 ?_
 refine HO_c (rSt (lC (cW 92) (lC cU8 (lC (cB 5) lN)))) fun p0 _ => ?_
 obtain ⟨l0_0, l0_1, l0_2, _⟩ := p0
 refine HO_0 tabO_nma (nAttr_R r) [.tmp 2, .tmp 3] [0] 64 Try.func26 fun w hG h => ?_
 have h : nAttr n l0_0 l0_1 l0_2 = some r := h
 unfold nAttr at h
 have hT := tabO_nma
 refine Vrs hT [2, 0, 1] ⟨[(1, kP 0 0)], [], [⟨.blk, 46, 1, 3, .c [.wh 1, .s (.u8 l0_1), .wh 2]⟩, ow 92 l0_0, ob 5 l0_2]⟩ ?_
 obtain ⟨r10, g1, h⟩ := bind_some' h
 refine Vgs hT (fT 2 (pOid_ok n r10) fN) [] [] [0, 1, 2, 3] ⟨[(1, kP 0 0), (4, kH 3), (5, kE 38 r10.2)], [], [⟨.blk, 46, 1, 3, .c [.wh 1, .s (.u8 l0_1), .wh 2]⟩, ow 92 l0_0, ob 5 l0_2, nb 5 r10.1]⟩ (aP g1 aN) ?_
 refine W_seq ?_
 refine W_seq ?_
 rcases Bool.eq_false_or_eq_true (!((r10.2).isNone)) with g2 | g2
 ·replace h := bif_t h g2
  refine Vg hT fN [(2, true)] [] [0, 1, 2, 3] ⟨[(1, kP 0 0), (4, kH 3), (44, kB true)], [], [⟨.blk, 46, 1, 3, .c [.wh 1, .s (.u8 l0_1), .wh 2]⟩, ow 92 l0_0, ob 5 l0_2, nb 5 r10.1]⟩ (aP g2 aN) ?_
  refine Vi (true) (fun _ => ?_) (fun hb => by cases hb)
  refine Vrs hT [] ⟨[(2, .c (.nils)), (3, kE 38 (some 1))], [], []⟩ ?_
  refine Vc [.nil 2 5 1 (.b [])] [0] (nAttr_R ([], (some 1))) (W_ret ?_)
  exact ⟨.inl rfl, by cases h; rfl⟩
 ·replace h := bif_f h g2
  rcases Bool.eq_false_or_eq_true (l0_1 != 12) with g3 | g3
  ·replace h := bif_t h g3
   rcases Bool.eq_false_or_eq_true (l0_1 != 19) with g4 | g4
   ·replace h := bif_t h g4
    refine Vg hT fN [(2, false), (6, true), (12, true)] [] [0, 1, 2, 3] ⟨[(1, kP 0 0), (4, kH 3), (44, kB true)], [], [⟨.blk, 46, 1, 3, .c [.wh 1, .s (.u8 l0_1), .wh 2]⟩, ow 92 l0_0, ob 5 l0_2, nb 5 r10.1]⟩ (aP g2 (aP g3 (aP g4 aN))) ?_
    refine Vi (true) (fun _ => ?_) (fun hb => by cases hb)
    refine Vrs hT [] ⟨[(2, .c (.nils)), (3, kE 38 (some 1))], [], []⟩ ?_
    refine Vc [.nil 2 5 1 (.b [])] [0] (nAttr_R ([], (some 1))) (W_ret ?_)
    exact ⟨.inl rfl, by cases h; rfl⟩
   ·replace h := bif_f h g4
    rcases Bool.eq_false_or_eq_true (decide (((l0_2.length : Nat) : Int) < (1 : Int))) with g5 | g5
    ·replace h := bif_t h g5
     refine Vg hT fN [(2, false), (6, true), (12, false), (18, true)] [] [0, 1, 2, 3] ⟨[(1, kP 0 0), (4, kH 3), (44, kB true)], [], [⟨.blk, 46, 1, 3, .c [.wh 1, .s (.u8 l0_1), .wh 2]⟩, ow 92 l0_0, ob 5 l0_2, nb 5 r10.1]⟩ (aP g2 (aP g3 (aP g4 (aP g5 aN)))) ?_
     refine Vi (true) (fun _ => ?_) (fun hb => by cases hb)
     refine Vrs hT [] ⟨[(2, .c (.nils)), (3, kE 38 (some 1))], [], []⟩ ?_
     refine Vc [.nil 2 5 1 (.b [])] [0] (nAttr_R ([], (some 1))) (W_ret ?_)
     exact ⟨.inl rfl, by cases h; rfl⟩
    ·replace h := bif_f h g5
     rcases Bool.eq_false_or_eq_true (decide ((64 : Int) < ((l0_2.length : Nat) : Int))) with g6 | g6
     ·replace h := bif_t h g6
      refine Vg hT fN [(2, false), (6, true), (12, false), (18, false), (24, true)] [] [0, 1, 2, 3] ⟨[(1, kP 0 0), (4, kH 3), (44, kB true)], [], [⟨.blk, 46, 1, 3, .c [.wh 1, .s (.u8 l0_1), .wh 2]⟩, ow 92 l0_0, ob 5 l0_2, nb 5 r10.1]⟩ (aP g2 (aP g3 (aP g4 (aP g5 (aP g6 aN))))) ?_
      refine Vi (true) (fun _ => ?_) (fun hb => by cases hb)
      refine Vrs hT [] ⟨[(2, .c (.nils)), (3, kE 38 (some 1))], [], []⟩ ?_
      refine Vc [.nil 2 5 1 (.b [])] [0] (nAttr_R ([], (some 1))) (W_ret ?_)
      exact ⟨.inl rfl, by cases h; rfl⟩
     ·replace h := bif_f h g6
      obtain ⟨r42, g7, h⟩ := bind_some' h
      refine Vg hT (fT 29 (pText_ok n r42) fN) [(2, false), (6, true), (12, false), (18, false), (24, false)] [] [0, 1, 2, 3] ⟨[(1, kP 0 0), (4, kH 3), (44, kB (!((r42).isNone)))], [], [⟨.blk, 46, 1, 3, .c [.wh 1, .s (.u8 l0_1), .wh 2]⟩, ow 92 l0_0, ob 5 l0_2, nb 5 r10.1]⟩ (aP g2 (aP g3 (aP g4 (aP g5 (aP g6 (aP g7 aN)))))) ?_
      refine Vi ((!((r42).isNone))) (fun g14 => ?_) (fun g14 => ?_)
      ·replace h := bif_t h g14
       refine Vrs hT [] ⟨[(2, .c (.nils)), (3, kE 38 (some 1))], [], []⟩ ?_
       refine Vc [.nil 2 5 1 (.b [])] [0] (nAttr_R ([], (some 1))) (W_ret ?_)
       exact ⟨.inl rfl, by cases h; rfl⟩
      ·replace h := bif_f h g14
       refine W_skip ?_
       obtain ⟨r46, g8, h⟩ := bind_some' h
       refine Vgs hT (fT 0 (wNew_ok n r46) fN) [] [] [0, 1, 2, 3, 4, 5, 6] ⟨[(1, kP 0 0), (4, kH 3), (6, kP 4 0)], [], [⟨.blk, 46, 1, 3, .c [.wh 1, .s (.u8 l0_1), .wh 2]⟩, ow 92 l0_0, ob 5 l0_2, nb 5 r10.1, ⟨.blk, 100, 1, 2, .c [.wh 5, .s (.v .nilIface)]⟩, ⟨.row, 103, 2, 1, .c [.s (.u8 0), .wh 6]⟩, ⟨.row, 5, 1, 0, .b []⟩]⟩ (aP g8 aN) ?_
       obtain ⟨r48, g9, h⟩ := bind_some' h
       refine Vgs hT (fM 1 (wOpen1_ok n r48) fN) [] [] [0, 1, 2, 3, 4, 7, 8, 9] ⟨[(1, kP 0 0), (4, kH 3), (6, kP 4 0)], [], [⟨.blk, 46, 1, 3, .c [.wh 1, .s (.u8 l0_1), .wh 2]⟩, ow 92 l0_0, ob 5 l0_2, nb 5 r10.1, ⟨.blk, 100, 1, 2, .c [.wh 5, .s (.er 38 .i64 none)]⟩, ⟨.row, 103, 2, 2, .c [.s (.u8 0), .wh 6, .s (.u8 48), .wh 7]⟩, nb 5 [], ⟨.row, 5, 1, 0, .b []⟩]⟩ (aP g9 aN) ?_
       obtain ⟨r51, g10, h⟩ := bind_some' h
       refine Vgs hT (fM 2 (wPut2_ok n r51) fN) [] [] [0, 1, 2, 4, 8, 9, 10] ⟨[(1, kP 0 0), (6, kP 3 0)], [], [⟨.blk, 46, 1, 3, .c [.wh 1, .s (.u8 l0_1), .wh 2]⟩, ow 92 l0_0, ob 5 l0_2, ⟨.blk, 100, 1, 2, .c [.wh 4, .s (.er 38 .i64 none)]⟩, ⟨.row, 103, 2, 2, .c [.s (.u8 0), .wh 5, .s (.u8 48), .wh 6]⟩, nb 5 [], nb 5 r51]⟩ (aP g10 aN) ?_
       obtain ⟨r57, g11, h⟩ := bind_some' h
       refine Vgs hT (fM 5 (wPut2_ok n r57) fN) [] [] [3, 7, 8, 9] ⟨[(6, kP 0 0)], [], [⟨.blk, 100, 1, 2, .c [.wh 1, .s (.er 38 .i64 none)]⟩, ⟨.row, 103, 2, 2, .c [.s (.u8 0), .wh 2, .s (.u8 48), .wh 3]⟩, nb 5 [], nb 5 r57]⟩ (aP g11 aN) ?_
       obtain ⟨r59, g12, h⟩ := bind_some' h
       refine Vgs hT (fM 1 (wClose2_ok n r59) fN) [] [] [0, 4, 5] ⟨[(6, kP 0 0)], [], [⟨.blk, 100, 1, 2, .c [.wh 1, .s (.er 38 .i64 none)]⟩, ⟨.row, 103, 2, 1, .c [.s (.u8 0), .wh 2]⟩, nb 5 r59]⟩ (aP g12 aN) ?_
       obtain ⟨r61, g13, h⟩ := bind_some' h
       refine Vgs hT (fM 1 (wBytes1_ok n r61) fN) [] [] [5] ⟨[(2, kH 0), (3, kE 38 none)], [], [nb 5 r59]⟩ (aP g13 aN) ?_
       refine Vc [] [0] (nAttr_R (r59, none)) (W_ret ?_)
       exact ⟨.inl rfl, by cases h; rfl⟩
  ·replace h := bif_f h g3
   rcases Bool.eq_false_or_eq_true (decide (((l0_2.length : Nat) : Int) < (1 : Int))) with g15 | g15
   ·replace h := bif_t h g15
    refine Vg hT fN [(2, false), (6, false), (18, true)] [] [0, 1, 2, 3] ⟨[(1, kP 0 0), (4, kH 3), (44, kB true)], [], [⟨.blk, 46, 1, 3, .c [.wh 1, .s (.u8 l0_1), .wh 2]⟩, ow 92 l0_0, ob 5 l0_2, nb 5 r10.1]⟩ (aP g2 (aP g3 (aP g15 aN))) ?_
    refine Vi (true) (fun _ => ?_) (fun hb => by cases hb)
    refine Vrs hT [] ⟨[(2, .c (.nils)), (3, kE 38 (some 1))], [], []⟩ ?_
    refine Vc [.nil 2 5 1 (.b [])] [0] (nAttr_R ([], (some 1))) (W_ret ?_)
    exact ⟨.inl rfl, by cases h; rfl⟩
   ·replace h := bif_f h g15
    rcases Bool.eq_false_or_eq_true (decide ((64 : Int) < ((l0_2.length : Nat) : Int))) with g16 | g16
    ·replace h := bif_t h g16
     refine Vg hT fN [(2, false), (6, false), (18, false), (24, true)] [] [0, 1, 2, 3] ⟨[(1, kP 0 0), (4, kH 3), (44, kB true)], [], [⟨.blk, 46, 1, 3, .c [.wh 1, .s (.u8 l0_1), .wh 2]⟩, ow 92 l0_0, ob 5 l0_2, nb 5 r10.1]⟩ (aP g2 (aP g3 (aP g15 (aP g16 aN)))) ?_
     refine Vi (true) (fun _ => ?_) (fun hb => by cases hb)
     refine Vrs hT [] ⟨[(2, .c (.nils)), (3, kE 38 (some 1))], [], []⟩ ?_
     refine Vc [.nil 2 5 1 (.b [])] [0] (nAttr_R ([], (some 1))) (W_ret ?_)
     exact ⟨.inl rfl, by cases h; rfl⟩
    ·replace h := bif_f h g16
     obtain ⟨r42, g17, h⟩ := bind_some' h
     refine Vg hT (fT 29 (pText_ok n r42) fN) [(2, false), (6, false), (18, false), (24, false)] [] [0, 1, 2, 3] ⟨[(1, kP 0 0), (4, kH 3), (44, kB (!((r42).isNone)))], [], [⟨.blk, 46, 1, 3, .c [.wh 1, .s (.u8 l0_1), .wh 2]⟩, ow 92 l0_0, ob 5 l0_2, nb 5 r10.1]⟩ (aP g2 (aP g3 (aP g15 (aP g16 (aP g17 aN))))) ?_
     refine Vi ((!((r42).isNone))) (fun g24 => ?_) (fun g24 => ?_)
     ·replace h := bif_t h g24
      refine Vrs hT [] ⟨[(2, .c (.nils)), (3, kE 38 (some 1))], [], []⟩ ?_
      refine Vc [.nil 2 5 1 (.b [])] [0] (nAttr_R ([], (some 1))) (W_ret ?_)
      exact ⟨.inl rfl, by cases h; rfl⟩
     ·replace h := bif_f h g24
      refine W_skip ?_
      obtain ⟨r46, g18, h⟩ := bind_some' h
      refine Vgs hT (fT 0 (wNew_ok n r46) fN) [] [] [0, 1, 2, 3, 4, 5, 6] ⟨[(1, kP 0 0), (4, kH 3), (6, kP 4 0)], [], [⟨.blk, 46, 1, 3, .c [.wh 1, .s (.u8 l0_1), .wh 2]⟩, ow 92 l0_0, ob 5 l0_2, nb 5 r10.1, ⟨.blk, 100, 1, 2, .c [.wh 5, .s (.v .nilIface)]⟩, ⟨.row, 103, 2, 1, .c [.s (.u8 0), .wh 6]⟩, ⟨.row, 5, 1, 0, .b []⟩]⟩ (aP g18 aN) ?_
      obtain ⟨r48, g19, h⟩ := bind_some' h
      refine Vgs hT (fM 1 (wOpen1_ok n r48) fN) [] [] [0, 1, 2, 3, 4, 7, 8, 9] ⟨[(1, kP 0 0), (4, kH 3), (6, kP 4 0)], [], [⟨.blk, 46, 1, 3, .c [.wh 1, .s (.u8 l0_1), .wh 2]⟩, ow 92 l0_0, ob 5 l0_2, nb 5 r10.1, ⟨.blk, 100, 1, 2, .c [.wh 5, .s (.er 38 .i64 none)]⟩, ⟨.row, 103, 2, 2, .c [.s (.u8 0), .wh 6, .s (.u8 48), .wh 7]⟩, nb 5 [], ⟨.row, 5, 1, 0, .b []⟩]⟩ (aP g19 aN) ?_
      obtain ⟨r51, g20, h⟩ := bind_some' h
      refine Vgs hT (fM 2 (wPut2_ok n r51) fN) [] [] [0, 1, 2, 4, 8, 9, 10] ⟨[(1, kP 0 0), (6, kP 3 0)], [], [⟨.blk, 46, 1, 3, .c [.wh 1, .s (.u8 l0_1), .wh 2]⟩, ow 92 l0_0, ob 5 l0_2, ⟨.blk, 100, 1, 2, .c [.wh 4, .s (.er 38 .i64 none)]⟩, ⟨.row, 103, 2, 2, .c [.s (.u8 0), .wh 5, .s (.u8 48), .wh 6]⟩, nb 5 [], nb 5 r51]⟩ (aP g20 aN) ?_
      obtain ⟨r57, g21, h⟩ := bind_some' h
      refine Vgs hT (fM 5 (wPut2_ok n r57) fN) [] [] [3, 7, 8, 9] ⟨[(6, kP 0 0)], [], [⟨.blk, 100, 1, 2, .c [.wh 1, .s (.er 38 .i64 none)]⟩, ⟨.row, 103, 2, 2, .c [.s (.u8 0), .wh 2, .s (.u8 48), .wh 3]⟩, nb 5 [], nb 5 r57]⟩ (aP g21 aN) ?_
      obtain ⟨r59, g22, h⟩ := bind_some' h
      refine Vgs hT (fM 1 (wClose2_ok n r59) fN) [] [] [0, 4, 5] ⟨[(6, kP 0 0)], [], [⟨.blk, 100, 1, 2, .c [.wh 1, .s (.er 38 .i64 none)]⟩, ⟨.row, 103, 2, 1, .c [.s (.u8 0), .wh 2]⟩, nb 5 r59]⟩ (aP g22 aN) ?_
      obtain ⟨r61, g23, h⟩ := bind_some' h
      refine Vgs hT (fM 1 (wBytes1_ok n r61) fN) [] [] [5] ⟨[(2, kH 0), (3, kE 38 none)], [], [nb 5 r59]⟩ (aP g23 aN) ?_
      refine Vc [] [0] (nAttr_R (r59, none)) (W_ret ?_)
      exact ⟨.inl rfl, by cases h; rfl⟩
def nWrite_l2_E (a0 : List (List (List UInt32 × (UInt8 × List UInt8)))) (l4_1 : List UInt8) (i23_1 : Int) (l7_5 : List UInt8) (l8_5 : List UInt8) (i38_5 : Int) : S := ⟨[(4, kH 0), (7, kH 1), (8, kH 2), (21, kH 3), (22, kI ((a0.length : Nat) : Int)), (23, kI i23_1), (36, .c (.dv 3 [(i23_1.toNat, 0)])), (37, kI (((a0.getD i23_1.toNat []).length : Nat) : Int)), (38, kI i38_5)], [], [nb 5 l4_1, nb 5 l7_5, nb 5 l8_5, ⟨.dp, 47, 1, a0.length, .d (.sl 46 (.pr (.wo 92) (.pr .u8 (.by 5)))) a0⟩]⟩
abbrev nWrite_l2_P (n : Nat) (a0 : List (List (List UInt32 × (UInt8 × List UInt8)))) (l4_1 : List UInt8) (i23_1 : Int) (k_l1 : (List UInt8) → Int → Option (List UInt8 × Option Int)) (r : List UInt8 × Option Int) (fu : Nat) : S → Prop := fun s => ∃ (l7_5 : List UInt8), ∃ (l8_5 : List UInt8), ∃ (i38_5 : Int), s = nWrite_l2_E a0 l4_1 i23_1 l7_5 l8_5 i38_5 ∧ nWrite_l2 n a0 l4_1 i23_1 k_l1 fu l7_5 l8_5 i38_5 = some r
def nWrite_l1_E (a0 : List (List (List UInt32 × (UInt8 × List UInt8)))) (l4_1 : List UInt8) (i23_1 : Int) : S := ⟨[(4, kH 0), (21, kH 1), (22, kI ((a0.length : Nat) : Int)), (23, kI i23_1)], [], [nb 5 l4_1, ⟨.dp, 47, 1, a0.length, .d (.sl 46 (.pr (.wo 92) (.pr .u8 (.by 5)))) a0⟩]⟩
abbrev nWrite_l1_P (n : Nat) (a0 : List (List (List UInt32 × (UInt8 × List UInt8)))) (r : List UInt8 × Option Int) (fu : Nat) : S → Prop := fun s => ∃ (l4_1 : List UInt8), ∃ (i23_1 : Int), s = nWrite_l1_E a0 l4_1 i23_1 ∧ nWrite_l1 n a0 fu l4_1 i23_1 = some r
def nWrite_R (r : List UInt8 × Option Int) : S := ⟨[(2, kH 0), (3, kE 38 r.2)], [], [nb 5 r.1]⟩
def nWrite_ct (n : Nat) (r : List UInt8 × Option Int) : Ct := ctc (rD 47 (.sl 46 (.pr (.wo 92) (.pr .u8 (.by 5))))).rd fun _ l0 => ct0 fun H => ([nWrite n l0 = some r], shA H.length (.t [.c (.wh 0), .c (.s (.er 38 .i64 r.2))]), shH H.length [nb 5 r.1])
theorem nWrite_ok (n : Nat) (r : List UInt8 × Option Int) : FnOk Try.prog Tr 19 (nWrite_ct n r) := by
 refine fnok Try.func19 ?_
 refine HO_c (rD 47 (.sl 46 (.pr (.wo 92) (.pr .u8 (.by 5))))) fun (l0 : List (List (List UInt32 × (UInt8 × List UInt8)))) _ => HO_0 tabO_nma (nWrite_R r) [.tmp 2, .tmp 3] [0] 93 Try.func19 fun w hG h => ?_
 unfold nWrite at h
 have hT := tabO_nma
 refine Vrs hT [0] ⟨[(0, kH 0)], [], [⟨.dp, 47, 1, l0.length, .d (.sl 46 (.pr (.wo 92) (.pr .u8 (.by 5)))) l0⟩]⟩ ?_
 refine W_seq ?_
 refine Vrs hT [0] ⟨[(0, kH 0), (19, kB (decide ((8 : Int) < ((l0.length : Nat) : Int))))], [], [⟨.dp, 47, 1, l0.length, .d (.sl 46 (.pr (.wo 92) (.pr .u8 (.by 5)))) l0⟩]⟩ ?_
 refine Vi ((decide ((8 : Int) < ((l0.length : Nat) : Int)))) (fun g25 => ?_) (fun g25 => ?_)
 ·replace h := bif_t h g25
  refine Vrs hT [] ⟨[(2, .c (.nils)), (3, kE 38 (some 1))], [], []⟩ ?_
  refine Vc [.nil 2 5 1 (.b [])] [0] (nWrite_R ([], (some 1))) (W_ret ?_)
  exact ⟨.inl rfl, by cases h; rfl⟩
 ·replace h := bif_f h g25
  refine W_skip ?_
  refine Vrs hT [0] ⟨[(0, kH 0), (4, .c (.nils))], [], [⟨.dp, 47, 1, l0.length, .d (.sl 46 (.pr (.wo 92) (.pr .u8 (.by 5)))) l0⟩]⟩ ?_
  refine W_seq ?_
  refine Vrs hT [0] ⟨[(4, .c (.nils)), (21, kH 0), (22, kI ((l0.length : Nat) : Int)), (23, kI 0)], [], [⟨.dp, 47, 1, l0.length, .d (.sl 46 (.pr (.wo 92) (.pr .u8 (.by 5)))) l0⟩]⟩ ?_
  refine W_block ?_
  refine Vc [.nil 4 5 1 (.b [])] [1, 0] (nWrite_l1_E l0 [] 0) (W_lp ((nWrite_l1_P n l0 r)) n ⟨_, _, rfl, h⟩ ?_)
  rintro fu_l1 _ ⟨l4_1, i23_1, rfl, h⟩
  cases fu_l1 with
  | zero => cases h
  | succ fu_l1 =>
   refine ⟨fu_l1, rfl, ?_⟩
   rw [nWrite_l1] at h
   refine Vrs hT [0, 1] ⟨[(4, kH 0), (21, kH 1), (22, kI ((l0.length : Nat) : Int)), (23, kI i23_1), (24, kB (decide (i23_1 < ((l0.length : Nat) : Int))))], [], [nb 5 l4_1, ⟨.dp, 47, 1, l0.length, .d (.sl 46 (.pr (.wo 92) (.pr .u8 (.by 5)))) l0⟩]⟩ ?_
   refine W_seq ?_
   refine Vi ((decide (i23_1 < ((l0.length : Nat) : Int)))) (fun g24 => ?_) (fun g24 => ?_)
   ·replace h := bif_t h g24
    refine W_skip ?_
    refine W_seq ?_
    refine W_block ?_
    obtain ⟨g1, g2, h⟩ := gd2 h
    refine Vgs hT fN [] [] [0, 1] ⟨[(4, kH 0), (6, .c (.dv 1 [(i23_1.toNat, 0)])), (21, kH 1), (22, kI ((l0.length : Nat) : Int)), (23, kI i23_1)], [], [nb 5 l4_1, ⟨.dp, 47, 1, l0.length, .d (.sl 46 (.pr (.wo 92) (.pr .u8 (.by 5)))) l0⟩]⟩ (aP g1 (aP g2 aN)) ?_
    refine W_seq ?_
    refine W_seq ?_
    rcases Bool.eq_false_or_eq_true (decide ((((l0.getD i23_1.toNat []).length : Nat) : Int) < (1 : Int))) with g3 | g3
    ·replace h := bif_t h g3
     refine Vg hT fN [(3, true)] [] [0, 1] ⟨[(4, kH 0), (6, .c (.dv 1 [(i23_1.toNat, 0)])), (21, kH 1), (22, kI ((l0.length : Nat) : Int)), (23, kI i23_1), (34, kB true)], [], [nb 5 l4_1, ⟨.dp, 47, 1, l0.length, .d (.sl 46 (.pr (.wo 92) (.pr .u8 (.by 5)))) l0⟩]⟩ (aP g3 aN) ?_
     refine Vi (true) (fun _ => ?_) (fun hb => by cases hb)
     refine Vrs hT [] ⟨[(2, .c (.nils)), (3, kE 38 (some 1))], [], []⟩ ?_
     refine Vc [.nil 2 5 1 (.b [])] [0] (nWrite_R ([], (some 1))) (W_ret ?_)
     exact ⟨.inl rfl, by cases h; rfl⟩
    ·replace h := bif_f h g3
     refine Vg hT fN [(3, false)] [] [0, 1] ⟨[(4, kH 0), (6, .c (.dv 1 [(i23_1.toNat, 0)])), (21, kH 1), (22, kI ((l0.length : Nat) : Int)), (23, kI i23_1), (34, kB (decide ((4 : Int) < (((l0.getD i23_1.toNat []).length : Nat) : Int))))], [], [nb 5 l4_1, ⟨.dp, 47, 1, l0.length, .d (.sl 46 (.pr (.wo 92) (.pr .u8 (.by 5)))) l0⟩]⟩ (aP g3 aN) ?_
     refine Vi ((decide ((4 : Int) < (((l0.getD i23_1.toNat []).length : Nat) : Int)))) (fun g20 => ?_) (fun g20 => ?_)
     ·replace h := bif_t h g20
      refine Vrs hT [] ⟨[(2, .c (.nils)), (3, kE 38 (some 1))], [], []⟩ ?_
      refine Vc [.nil 2 5 1 (.b [])] [0] (nWrite_R ([], (some 1))) (W_ret ?_)
      exact ⟨.inl rfl, by cases h; rfl⟩
     ·replace h := bif_f h g20
      refine W_skip ?_
      refine Vrs hT [0, 1] ⟨[(4, kH 0), (6, .c (.dv 1 [(i23_1.toNat, 0)])), (7, .c (.nils)), (8, .c (.nils)), (21, kH 1), (22, kI ((l0.length : Nat) : Int)), (23, kI i23_1)], [], [nb 5 l4_1, ⟨.dp, 47, 1, l0.length, .d (.sl 46 (.pr (.wo 92) (.pr .u8 (.by 5)))) l0⟩]⟩ ?_
      refine W_seq ?_
      refine Vrs hT [0, 1] ⟨[(4, kH 0), (7, .c (.nils)), (8, .c (.nils)), (21, kH 1), (22, kI ((l0.length : Nat) : Int)), (23, kI i23_1), (36, .c (.dv 1 [(i23_1.toNat, 0)])), (37, kI (((l0.getD i23_1.toNat []).length : Nat) : Int)), (38, kI 0)], [], [nb 5 l4_1, ⟨.dp, 47, 1, l0.length, .d (.sl 46 (.pr (.wo 92) (.pr .u8 (.by 5)))) l0⟩]⟩ ?_
      refine W_block ?_
      refine Vc [.nil 7 5 1 (.b []), .nil 8 5 1 (.b [])] [0, 2, 3, 1] (nWrite_l2_E l0 l4_1 i23_1 [] [] 0) (W_lp ((nWrite_l2_P n l0 l4_1 i23_1 (nWrite_l1 n l0 fu_l1) r)) n ⟨_, _, _, rfl, h⟩ ?_)
      rintro fu_l2 _ ⟨l7_5, l8_5, i38_5, rfl, h⟩
      cases fu_l2 with
      | zero => cases h
      | succ fu_l2 =>
       refine ⟨fu_l2, rfl, ?_⟩
       rw [nWrite_l2] at h
       refine Vrs hT [0, 1, 2, 3] ⟨[(4, kH 0), (7, kH 1), (8, kH 2), (21, kH 3), (22, kI ((l0.length : Nat) : Int)), (23, kI i23_1), (36, .c (.dv 3 [(i23_1.toNat, 0)])), (37, kI (((l0.getD i23_1.toNat []).length : Nat) : Int)), (38, kI i38_5), (39, kB (decide (i38_5 < (((l0.getD i23_1.toNat []).length : Nat) : Int))))], [], [nb 5 l4_1, nb 5 l7_5, nb 5 l8_5, ⟨.dp, 47, 1, l0.length, .d (.sl 46 (.pr (.wo 92) (.pr .u8 (.by 5)))) l0⟩]⟩ ?_
       refine W_seq ?_
       refine Vi ((decide (i38_5 < (((l0.getD i23_1.toNat []).length : Nat) : Int)))) (fun g19 => ?_) (fun g19 => ?_)
       ·replace h := bif_t h g19
        refine W_skip ?_
        refine W_seq ?_
        refine W_block ?_
        obtain ⟨g4, g5, h⟩ := gd2 h
        refine Vgs hT fN [] [] [0, 1, 2, 4, 3] ⟨[(4, kH 0), (7, kH 1), (8, kH 2), (9, kI i38_5), (10, kP 3 0), (21, kH 4), (22, kI ((l0.length : Nat) : Int)), (23, kI i23_1), (36, .c (.dv 4 [(i23_1.toNat, 0)])), (37, kI (((l0.getD i23_1.toNat []).length : Nat) : Int)), (38, kI i38_5)], [], [nb 5 l4_1, nb 5 l7_5, nb 5 l8_5, ⟨.blk, 46, 1, 3, .c [.dv 4 [(i38_5.toNat, 0), (i23_1.toNat, 0)], .s (.u8 (((l0.getD i23_1.toNat []).getD i38_5.toNat ([], (0, []))).2.1)), .dv 4 [(i38_5.toNat, 2), (i23_1.toNat, 0)]]⟩, ⟨.dp, 47, 1, l0.length, .d (.sl 46 (.pr (.wo 92) (.pr .u8 (.by 5)))) l0⟩]⟩ (aP g4 (aP g5 aN)) ?_
        obtain ⟨r45_8, g6, h⟩ := bind_some' h
        refine Vgs hT (fT 1 (nAttr_ok n r45_8) fN) [] [] [0, 1, 2, 5, 4] ⟨[(4, kH 0), (7, kH 1), (8, kH 2), (9, kI i38_5), (11, kH 3), (12, kE 38 r45_8.2), (21, kH 4), (22, kI ((l0.length : Nat) : Int)), (23, kI i23_1), (36, .c (.dv 4 [(i23_1.toNat, 0)])), (37, kI (((l0.getD i23_1.toNat []).length : Nat) : Int)), (38, kI i38_5)], [], [nb 5 l4_1, nb 5 l7_5, nb 5 l8_5, nb 5 r45_8.1, ⟨.dp, 47, 1, l0.length, .d (.sl 46 (.pr (.wo 92) (.pr .u8 (.by 5)))) l0⟩]⟩ (aP g6 aN) ?_
        refine W_seq ?_
        refine W_seq ?_
        rcases Bool.eq_false_or_eq_true (!((r45_8.2).isNone)) with g7 | g7
        ·replace h := bif_t h g7
         refine Vg hT fN [(2, true)] [] [0, 1, 3, 4] ⟨[(4, kH 0), (7, kH 1), (11, kH 2), (21, kH 3), (22, kI ((l0.length : Nat) : Int)), (23, kI i23_1), (36, .c (.dv 3 [(i23_1.toNat, 0)])), (37, kI (((l0.getD i23_1.toNat []).length : Nat) : Int)), (38, kI i38_5), (59, kB true)], [], [nb 5 l4_1, nb 5 l7_5, nb 5 r45_8.1, ⟨.dp, 47, 1, l0.length, .d (.sl 46 (.pr (.wo 92) (.pr .u8 (.by 5)))) l0⟩]⟩ (aP g7 aN) ?_
         refine Vi (true) (fun _ => ?_) (fun hb => by cases hb)
         refine Vrs hT [] ⟨[(2, .c (.nils)), (3, kE 38 (some 1))], [], []⟩ ?_
         refine Vc [.nil 2 5 1 (.b [])] [0] (nWrite_R ([], (some 1))) (W_ret ?_)
         exact ⟨.inl rfl, by cases h; rfl⟩
        ·replace h := bif_f h g7
         rcases Bool.eq_false_or_eq_true (decide ((0 : Int) < i38_5)) with g8 | g8
         ·replace h := bif_t h g8
          refine Vg hT (fT 8 cmp_h fN) [(2, false), (5, true)] [] [0, 1, 3, 4] ⟨[(4, kH 0), (7, kH 1), (11, kH 2), (21, kH 3), (22, kI ((l0.length : Nat) : Int)), (23, kI i23_1), (36, .c (.dv 3 [(i23_1.toNat, 0)])), (37, kI (((l0.getD i23_1.toNat []).length : Nat) : Int)), (38, kI i38_5), (59, kB (decide ((0 : Int) ≤ (Lib.compareBytes l8_5 r45_8.1))))], [], [nb 5 l4_1, nb 5 l7_5, nb 5 r45_8.1, ⟨.dp, 47, 1, l0.length, .d (.sl 46 (.pr (.wo 92) (.pr .u8 (.by 5)))) l0⟩]⟩ (aP g7 (aP g8 aN)) ?_
          refine Vi ((decide ((0 : Int) ≤ (Lib.compareBytes l8_5 r45_8.1)))) (fun g11 => ?_) (fun g11 => ?_)
          ·replace h := bif_t h g11
           refine Vrs hT [] ⟨[(2, .c (.nils)), (3, kE 38 (some 1))], [], []⟩ ?_
           refine Vc [.nil 2 5 1 (.b [])] [0] (nWrite_R ([], (some 1))) (W_ret ?_)
           exact ⟨.inl rfl, by cases h; rfl⟩
          ·replace h := bif_f h g11
           refine W_skip ?_
           obtain ⟨g9, h⟩ := gd_some h
           refine Vg hT fN [] [] [0, 4, 2, 3] ⟨[(4, kH 0), (7, kH 1), (8, kH 2), (21, kH 3), (22, kI ((l0.length : Nat) : Int)), (23, kI i23_1), (36, .c (.dv 3 [(i23_1.toNat, 0)])), (37, kI (((l0.getD i23_1.toNat []).length : Nat) : Int)), (38, kI i38_5)], [], [nb 5 l4_1, nb 5 (l7_5 ++ r45_8.1), nb 5 r45_8.1, ⟨.dp, 47, 1, l0.length, .d (.sl 46 (.pr (.wo 92) (.pr .u8 (.by 5)))) l0⟩]⟩ (aP g9 aN) ?_
           obtain ⟨g10, h⟩ := gd_some h
           refine Vg hT fN [] [] [0, 1, 2, 3] (nWrite_l2_E l0 l4_1 i23_1 (l7_5 ++ r45_8.1) r45_8.1 (i38_5 + 1)) (aP g10 aN) ?_
           exact ⟨_, _, _, rfl, h⟩
         ·replace h := bif_f h g8
          refine Vg hT fN [(2, false), (5, false)] [] [0, 1, 3, 4] ⟨[(4, kH 0), (7, kH 1), (11, kH 2), (21, kH 3), (22, kI ((l0.length : Nat) : Int)), (23, kI i23_1), (36, .c (.dv 3 [(i23_1.toNat, 0)])), (37, kI (((l0.getD i23_1.toNat []).length : Nat) : Int)), (38, kI i38_5), (59, kB false)], [], [nb 5 l4_1, nb 5 l7_5, nb 5 r45_8.1, ⟨.dp, 47, 1, l0.length, .d (.sl 46 (.pr (.wo 92) (.pr .u8 (.by 5)))) l0⟩]⟩ (aP g7 (aP g8 aN)) ?_
          refine Vi (false) (fun hb => by cases hb) (fun _ => ?_)
          refine W_skip ?_
          obtain ⟨g12, h⟩ := gd_some h
          refine Vg hT fN [] [] [0, 4, 2, 3] ⟨[(4, kH 0), (7, kH 1), (8, kH 2), (21, kH 3), (22, kI ((l0.length : Nat) : Int)), (23, kI i23_1), (36, .c (.dv 3 [(i23_1.toNat, 0)])), (37, kI (((l0.getD i23_1.toNat []).length : Nat) : Int)), (38, kI i38_5)], [], [nb 5 l4_1, nb 5 (l7_5 ++ r45_8.1), nb 5 r45_8.1, ⟨.dp, 47, 1, l0.length, .d (.sl 46 (.pr (.wo 92) (.pr .u8 (.by 5)))) l0⟩]⟩ (aP g12 aN) ?_
          obtain ⟨g13, h⟩ := gd_some h
          refine Vg hT fN [] [] [0, 1, 2, 3] (nWrite_l2_E l0 l4_1 i23_1 (l7_5 ++ r45_8.1) r45_8.1 (i38_5 + 1)) (aP g13 aN) ?_
          exact ⟨_, _, _, rfl, h⟩
       ·replace h := bif_f h g19
        refine Vc [] [0, 1, 3] ⟨[(4, kH 0), (7, kH 1), (21, kH 2), (22, kI ((l0.length : Nat) : Int)), (23, kI i23_1)], [], [nb 5 l4_1, nb 5 l7_5, ⟨.dp, 47, 1, l0.length, .d (.sl 46 (.pr (.wo 92) (.pr .u8 (.by 5)))) l0⟩]⟩ (W_exit ?_)
        obtain ⟨r69_5, g14, h⟩ := bind_some' h
        refine Vgs hT (fT 2 (tHead_ok n r69_5) fN) [] [] [0, 1, 3, 2] ⟨[(4, kH 0), (7, kH 1), (13, kH 2), (14, kE 38 r69_5.2), (21, kH 3), (22, kI ((l0.length : Nat) : Int)), (23, kI i23_1)], [], [nb 5 l4_1, nb 5 l7_5, nb 5 r69_5.1, ⟨.dp, 47, 1, l0.length, .d (.sl 46 (.pr (.wo 92) (.pr .u8 (.by 5)))) l0⟩]⟩ (aP g14 aN) ?_
        refine W_seq ?_
        refine Vrs hT [0, 1, 2, 3] ⟨[(4, kH 0), (7, kH 1), (13, kH 2), (21, kH 3), (22, kI ((l0.length : Nat) : Int)), (23, kI i23_1), (73, kB (!((r69_5.2).isNone)))], [], [nb 5 l4_1, nb 5 l7_5, nb 5 r69_5.1, ⟨.dp, 47, 1, l0.length, .d (.sl 46 (.pr (.wo 92) (.pr .u8 (.by 5)))) l0⟩]⟩ ?_
        refine Vi ((!((r69_5.2).isNone))) (fun g18 => ?_) (fun g18 => ?_)
        ·replace h := bif_t h g18
         refine Vrs hT [] ⟨[(2, .c (.nils)), (3, kE 38 (some 1))], [], []⟩ ?_
         refine Vc [.nil 2 5 1 (.b [])] [0] (nWrite_R ([], (some 1))) (W_ret ?_)
         exact ⟨.inl rfl, by cases h; rfl⟩
        ·replace h := bif_f h g18
         refine W_skip ?_
         obtain ⟨g15, g16, h⟩ := gd2 h
         refine Vg hT fN [] [] [5, 3] ⟨[(4, kH 0), (21, kH 1), (22, kI ((l0.length : Nat) : Int)), (23, kI i23_1)], [], [nb 5 ((l4_1 ++ r69_5.1) ++ l7_5), ⟨.dp, 47, 1, l0.length, .d (.sl 46 (.pr (.wo 92) (.pr .u8 (.by 5)))) l0⟩]⟩ (aP g15 (aP g16 aN)) ?_
         obtain ⟨g17, h⟩ := gd_some h
         refine Vg hT fN [] [] [0, 1] (nWrite_l1_E l0 ((l4_1 ++ r69_5.1) ++ l7_5) (i23_1 + 1)) (aP g17 aN) ?_
         exact ⟨_, _, rfl, h⟩
   ·replace h := bif_f h g24
    refine Vc [] [0] ⟨[(4, kH 0)], [], [nb 5 l4_1]⟩ (W_exit ?_)
    obtain ⟨r84_1, g21, h⟩ := bind_some' h
    refine Vgs hT (fT 2 (tHead_ok n r84_1) fN) [] [] [0, 1] ⟨[(4, kH 0), (15, kH 1), (16, kE 38 r84_1.2)], [], [nb 5 l4_1, nb 5 r84_1.1]⟩ (aP g21 aN) ?_
    refine W_seq ?_
    refine Vrs hT [0, 1] ⟨[(4, kH 0), (15, kH 1), (88, kB (!((r84_1.2).isNone)))], [], [nb 5 l4_1, nb 5 r84_1.1]⟩ ?_
    refine Vi ((!((r84_1.2).isNone))) (fun g23 => ?_) (fun g23 => ?_)
    ·replace h := bif_t h g23
     refine Vrs hT [] ⟨[(2, .c (.nils)), (3, kE 38 (some 1))], [], []⟩ ?_
     refine Vc [.nil 2 5 1 (.b [])] [0] (nWrite_R ([], (some 1))) (W_ret ?_)
     exact ⟨.inl rfl, by cases h; rfl⟩
    ·replace h := bif_f h g23
     refine W_skip ?_
     obtain ⟨g22, h⟩ := gd_some h
     refine Vgs hT fN [] [] [2] ⟨[(2, kH 0), (3, .c (.s (.v .nilIface)))], [], [nb 5 (r84_1.1 ++ l4_1)]⟩ (aP g22 aN) ?_
     refine Vc [.er 3 38 .i64] [0] (nWrite_R ((r84_1.1 ++ l4_1), none)) (W_ret ?_)
     exact ⟨.inl rfl, by cases h; rfl⟩
def nCheck_R (r : Option Int) : S := ⟨[(2, kE 38 r)], [], []⟩
def nCheck_ct (n : Nat) (r : Option Int) : Ct := ctc (rD 47 (.sl 46 (.pr (.wo 92) (.pr .u8 (.by 5))))).rd fun _ l0 => ct0 fun H => ([nCheck n l0 = some r], shA H.length (kE 38 r), shH H.length [])
theorem nCheck_ok (n : Nat) (r : Option Int) : FnOk Try.prog Tr 18 (nCheck_ct n r) := by
 refine fnok Try.func18 ?_
 refine HO_c (rD 47 (.sl 46 (.pr (.wo 92) (.pr .u8 (.by 5))))) fun (l0 : List (List (List UInt32 × (UInt8 × List UInt8)))) _ => HO_0 tabO_nma (nCheck_R r) [.tmp 2] [] 11 Try.func18 fun w hG h => ?_
 unfold nCheck at h
 have hT := tabO_nma
 refine Vrs hT [0] ⟨[(0, kH 0)], [], [⟨.dp, 47, 1, l0.length, .d (.sl 46 (.pr (.wo 92) (.pr .u8 (.by 5)))) l0⟩]⟩ ?_
 obtain ⟨r7, g1, h⟩ := bind_some' h
 refine Vgs hT (fT 1 (nWrite_ok n r7) fN) [] [] [] ⟨[(4, kE 38 r7.2)], [], []⟩ (aP g1 aN) ?_
 refine Vrs hT [] ⟨[(2, kE 38 r7.2)], [], []⟩ ?_
 refine Vc [] [] (nCheck_R r7.2) (W_ret ?_)
 exact ⟨.inl rfl, by cases h; rfl⟩
def rHead_R (r : List UInt8) : S := ⟨[(4, kH 0)], [], [nb 5 r]⟩
def rHead_ct (n : Nat) (r : List UInt8) : Ct := ctc rU8.rd fun _ l0 => ctc rI.rd fun _ l1 => ct0 fun H => ([rHead n l0 l1 = some r], shA H.length (kH 0), shH H.length [nb 5 r])
theorem rHead_ok (n : Nat) (r : List UInt8) : FnOk Try.prog Tr 52 (rHead_ct n r) := by
 refine fnok Try.func52 ?_
 refine HO_c rU8 fun l0 _ => HO_c rI fun l1 _ => HO_0 tabO_nma (rHead_R r) [.tmp 4] [0] 25 Try.func52 fun w hG h => ?_
 unfold rHead at h
 have hT := tabO_nma
 refine Vrs hT [] ⟨[(0, kU l0), (1, kI l1)], [], []⟩ ?_
 refine W_seq ?_
 refine Vrs hT [] ⟨[(0, kU l0), (1, kI l1), (6, kB (decide (l1 < (128 : Int))))], [], []⟩ ?_
 refine Vi ((decide (l1 < (128 : Int)))) (fun g5 => ?_) (fun g5 => ?_)
 ·replace h := bif_t h g5
  refine Vrs hT [0] ⟨[(4, kH 0)], [], [⟨.row, 5, 1, 2, .b [l0, (UInt8.ofInt l1)]⟩]⟩ ?_
  refine Vc [] [0] (rHead_R [l0, (UInt8.ofInt l1)]) (W_ret ?_)
  exact ⟨.inl rfl, by cases h; rfl⟩
 ·replace h := bif_f h g5
  refine W_skip ?_
  refine W_seq ?_
  refine Vrs hT [] ⟨[(0, kU l0), (1, kI l1), (12, kB (decide (l1 < (256 : Int))))], [], []⟩ ?_
  refine Vi ((decide (l1 < (256 : Int)))) (fun g4 => ?_) (fun g4 => ?_)
  ·replace h := bif_t h g4
   refine Vrs hT [0] ⟨[(4, kH 0)], [], [⟨.row, 5, 1, 3, .b [l0, 129, (UInt8.ofInt l1)]⟩]⟩ ?_
   refine Vc [] [0] (rHead_R [l0, 129, (UInt8.ofInt l1)]) (W_ret ?_)
   exact ⟨.inl rfl, by cases h; rfl⟩
  ·replace h := bif_f h g4
   refine W_skip ?_
   obtain ⟨g1, g2, g3, h⟩ := gd3 h
   refine Vgs hT fN [] [] [0] ⟨[(4, kH 0)], [], [⟨.row, 5, 1, 4, .b [l0, 130, (UInt8.ofInt (Int.tdiv l1 256)), (UInt8.ofInt (Int.tmod l1 256))]⟩]⟩ (aP g1 (aP g2 (aP g3 aN))) ?_
   refine Vc [] [0] (rHead_R [l0, 130, (UInt8.ofInt (Int.tdiv l1 256)), (UInt8.ofInt (Int.tmod l1 256))]) (W_ret ?_)
   exact ⟨.inl rfl, by cases h; rfl⟩
def rEl_R (r : List UInt8) : S := ⟨[(4, kH 0)], [], [nb 5 r]⟩
def rEl_ct (n : Nat) (r : List UInt8) : Ct := ctc rU8.rd fun _ l0 => ctc (rB 5).rd fun _ l1 => ct0 fun H => ([rEl n l0 l1 = some r], shA H.length (kH 0), shH H.length [nb 5 r])
theorem rEl_ok (n : Nat) (r : List UInt8) : FnOk Try.prog Tr 30 (rEl_ct n r) := by
 refine fnok Try.func30 ?_
 refine HO_c rU8 fun l0 _ => HO_c (rB 5) fun l1 _ => HO_0 tabO_nma (rEl_R r) [.tmp 4] [0] 11 Try.func30 fun w hG h => ?_
 unfold rEl at h
 have hT := tabO_nma
 refine Vrs hT [0] ⟨[(0, kU l0), (1, kH 0)], [], [ob 5 l1]⟩ ?_
 obtain ⟨r8, g1, h⟩ := bind_some' h
 obtain ⟨g2, h⟩ := gd_some h
 refine Vgs hT (fT 3 (rHead_ok n r8) fN) [] [] [2] ⟨[(4, kH 0)], [], [nb 5 (r8 ++ l1)]⟩ (aP g1 (aP g2 aN)) ?_
 refine Vc [] [0] (rEl_R (r8 ++ l1)) (W_ret ?_)
 exact ⟨.inl rfl, by cases h; rfl⟩
def rAttr_R (r : List UInt8 × Bool) : S := ⟨[(2, kH 0), (3, kB r.2)], [], [nb 5 r.1]⟩
def rAttr_ct (n : Nat) (r : List UInt8 × Bool) : Ct := ctc (rSt (lC (cW 92) (lC cU8 (lC (cB 5) lN)))).rd fun _ y0 => ct0 fun H => ([rAttr n y0.1 y0.2.1 y0.2.2.1 = some r], shA H.length (.t [.c (.wh 0), .c (.s (.b r.2))]), shH H.length [nb 5 r.1])
theorem rAttr_ok (n : Nat) (r : List UInt8 × Bool) : FnOk Try.prog Tr 29 (rAttr_ct n r) := by
 refine fnok Try.func29 ?_
 refine HO_c (rSt (lC (cW 92) (lC cU8 (lC (cB 5) lN)))) fun p0 _ => ?_
 obtain ⟨l0_0, l0_1, l0_2, _⟩ := p0
 refine HO_0 tabO_nma (rAttr_R r) [.tmp 2, .tmp 3] [0] 49 Try.func29 fun w hG h => ?_
 have h : rAttr n l0_0 l0_1 l0_2 = some r := h
 unfold rAttr at h
 have hT := tabO_nma
 refine Vrs hT [2, 0, 1] ⟨[(1, kP 0 0)], [], [⟨.blk, 46, 1, 3, .c [.wh 1, .s (.u8 l0_1), .wh 2]⟩, ow 92 l0_0, ob 5 l0_2]⟩ ?_
 refine W_seq ?_
 refine W_seq ?_
 rcases Bool.eq_false_or_eq_true (l0_1 != 12) with g1 | g1
 ·replace h := bif_t h g1
  rcases Bool.eq_false_or_eq_true (l0_1 != 19) with g2 | g2
  ·replace h := bif_t h g2
   refine Vg hT fN [(3, true), (8, true)] [] [0, 1, 2] ⟨[(1, kP 0 0), (24, kB true)], [], [⟨.blk, 46, 1, 3, .c [.wh 1, .s (.u8 l0_1), .wh 2]⟩, ow 92 l0_0, ob 5 l0_2]⟩ (aP g1 (aP g2 aN)) ?_
   refine Vi (true) (fun _ => ?_) (fun hb => by cases hb)
   refine Vrs hT [] ⟨[(2, .c (.nils)), (3, kB false)], [], []⟩ ?_
   refine Vc [.nil 2 5 1 (.b [])] [0] (rAttr_R ([], false)) (W_ret ?_)
   exact ⟨.inl rfl, by cases h; rfl⟩
  ·replace h := bif_f h g2
   rcases Bool.eq_false_or_eq_true (decide (((l0_2.length : Nat) : Int) < (1 : Int))) with g3 | g3
   ·replace h := bif_t h g3
    refine Vg hT fN [(3, true), (8, false), (14, true)] [] [0, 1, 2] ⟨[(1, kP 0 0), (24, kB true)], [], [⟨.blk, 46, 1, 3, .c [.wh 1, .s (.u8 l0_1), .wh 2]⟩, ow 92 l0_0, ob 5 l0_2]⟩ (aP g1 (aP g2 (aP g3 aN))) ?_
    refine Vi (true) (fun _ => ?_) (fun hb => by cases hb)
    refine Vrs hT [] ⟨[(2, .c (.nils)), (3, kB false)], [], []⟩ ?_
    refine Vc [.nil 2 5 1 (.b [])] [0] (rAttr_R ([], false)) (W_ret ?_)
    exact ⟨.inl rfl, by cases h; rfl⟩
   ·replace h := bif_f h g3
    refine Vg hT fN [(3, true), (8, false), (14, false)] [] [0, 1, 2] ⟨[(1, kP 0 0), (24, kB (decide ((64 : Int) < ((l0_2.length : Nat) : Int))))], [], [⟨.blk, 46, 1, 3, .c [.wh 1, .s (.u8 l0_1), .wh 2]⟩, ow 92 l0_0, ob 5 l0_2]⟩ (aP g1 (aP g2 (aP g3 aN))) ?_
    refine Vi ((decide ((64 : Int) < ((l0_2.length : Nat) : Int)))) (fun g13 => ?_) (fun g13 => ?_)
    ·replace h := bif_t h g13
     refine Vrs hT [] ⟨[(2, .c (.nils)), (3, kB false)], [], []⟩ ?_
     refine Vc [.nil 2 5 1 (.b [])] [0] (rAttr_R ([], false)) (W_ret ?_)
     exact ⟨.inl rfl, by cases h; rfl⟩
    ·replace h := bif_f h g13
     refine Vc [] [0, 1, 2] ⟨[(1, kP 0 0)], [], [⟨.blk, 46, 1, 3, .c [.wh 1, .s (.u8 l0_1), .wh 2]⟩, ow 92 l0_0, ob 5 l0_2]⟩ (W_skip ?_)
     refine W_seq ?_
     refine W_seq ?_
     obtain ⟨r27, g4, h⟩ := bind_some' h
     rcases Bool.eq_false_or_eq_true (!r27) with g5 | g5
     ·replace h := bif_t h g5
      refine Vg hT (fT 2 (rOid_ok n r27) fN) [(4, true)] [] [0, 1, 2] ⟨[(1, kP 0 0), (36, kB true)], [], [⟨.blk, 46, 1, 3, .c [.wh 1, .s (.u8 l0_1), .wh 2]⟩, ow 92 l0_0, ob 5 l0_2]⟩ (aP g4 (aP g5 aN)) ?_
      refine Vi (true) (fun _ => ?_) (fun hb => by cases hb)
      refine Vrs hT [] ⟨[(2, .c (.nils)), (3, kB false)], [], []⟩ ?_
      refine Vc [.nil 2 5 1 (.b [])] [0] (rAttr_R ([], false)) (W_ret ?_)
      exact ⟨.inl rfl, by cases h; rfl⟩
     ·replace h := bif_f h g5
      obtain ⟨r34, g6, h⟩ := bind_some' h
      refine Vg hT (fT 2 (rOid_ok n r27) (fT 9 (rText_ok n r34) fN)) [(4, false)] [] [0, 1, 2] ⟨[(1, kP 0 0), (36, kB (!r34))], [], [⟨.blk, 46, 1, 3, .c [.wh 1, .s (.u8 l0_1), .wh 2]⟩, ow 92 l0_0, ob 5 l0_2]⟩ (aP g4 (aP g5 (aP g6 aN))) ?_
      refine Vi ((!r34)) (fun g12 => ?_) (fun g12 => ?_)
      ·replace h := bif_t h g12
       refine Vrs hT [] ⟨[(2, .c (.nils)), (3, kB false)], [], []⟩ ?_
       refine Vc [.nil 2 5 1 (.b [])] [0] (rAttr_R ([], false)) (W_ret ?_)
       exact ⟨.inl rfl, by cases h; rfl⟩
      ·replace h := bif_f h g12
       refine W_skip ?_
       obtain ⟨r39, g7, h⟩ := bind_some' h
       obtain ⟨r40, g8, h⟩ := bind_some' h
       obtain ⟨r45, g9, h⟩ := bind_some' h
       obtain ⟨g10, h⟩ := gd_some h
       refine Vds hT (fT 2 (rOidBody_ok n r39) (fT 3 (rEl_ok n r40) (fT 8 (rEl_ok n r45) fN))) 8 [] [(40, false), (42, false), (44, false)] [] [5] ⟨[(4, kH 0)], [], [nb 5 (r40 ++ r45)]⟩ (aP g7 (aP g8 (aP g9 (aP g10 aN)))) ?_
       obtain ⟨r48, g11, h⟩ := bind_some' h
       refine Vgs hT (fT 1 (rEl_ok n r48) fN) [] [] [1] ⟨[(2, kH 0), (3, kB true)], [], [nb 5 r48]⟩ (aP g11 aN) ?_
       refine Vc [] [0] (rAttr_R (r48, true)) (W_ret ?_)
       exact ⟨.inl rfl, by cases h; rfl⟩
 ·replace h := bif_f h g1
  rcases Bool.eq_false_or_eq_true (decide (((l0_2.length : Nat) : Int) < (1 : Int))) with g14 | g14
  ·replace h := bif_t h g14
   refine Vg hT fN [(3, false), (14, true)] [] [0, 1, 2] ⟨[(1, kP 0 0), (24, kB true)], [], [⟨.blk, 46, 1, 3, .c [.wh 1, .s (.u8 l0_1), .wh 2]⟩, ow 92 l0_0, ob 5 l0_2]⟩ (aP g1 (aP g14 aN)) ?_
   refine Vi (true) (fun _ => ?_) (fun hb => by cases hb)
   refine Vrs hT [] ⟨[(2, .c (.nils)), (3, kB false)], [], []⟩ ?_
   refine Vc [.nil 2 5 1 (.b [])] [0] (rAttr_R ([], false)) (W_ret ?_)
   exact ⟨.inl rfl, by cases h; rfl⟩
  ·replace h := bif_f h g14
   refine Vg hT fN [(3, false), (14, false)] [] [0, 1, 2] ⟨[(1, kP 0 0), (24, kB (decide ((64 : Int) < ((l0_2.length : Nat) : Int))))], [], [⟨.blk, 46, 1, 3, .c [.wh 1, .s (.u8 l0_1), .wh 2]⟩, ow 92 l0_0, ob 5 l0_2]⟩ (aP g1 (aP g14 aN)) ?_
   refine Vi ((decide ((64 : Int) < ((l0_2.length : Nat) : Int)))) (fun g24 => ?_) (fun g24 => ?_)
   ·replace h := bif_t h g24
    refine Vrs hT [] ⟨[(2, .c (.nils)), (3, kB false)], [], []⟩ ?_
    refine Vc [.nil 2 5 1 (.b [])] [0] (rAttr_R ([], false)) (W_ret ?_)
    exact ⟨.inl rfl, by cases h; rfl⟩
   ·replace h := bif_f h g24
    refine Vc [] [0, 1, 2] ⟨[(1, kP 0 0)], [], [⟨.blk, 46, 1, 3, .c [.wh 1, .s (.u8 l0_1), .wh 2]⟩, ow 92 l0_0, ob 5 l0_2]⟩ (W_skip ?_)
    refine W_seq ?_
    refine W_seq ?_
    obtain ⟨r27, g15, h⟩ := bind_some' h
    rcases Bool.eq_false_or_eq_true (!r27) with g16 | g16
    ·replace h := bif_t h g16
     refine Vg hT (fT 2 (rOid_ok n r27) fN) [(4, true)] [] [0, 1, 2] ⟨[(1, kP 0 0), (36, kB true)], [], [⟨.blk, 46, 1, 3, .c [.wh 1, .s (.u8 l0_1), .wh 2]⟩, ow 92 l0_0, ob 5 l0_2]⟩ (aP g15 (aP g16 aN)) ?_
     refine Vi (true) (fun _ => ?_) (fun hb => by cases hb)
     refine Vrs hT [] ⟨[(2, .c (.nils)), (3, kB false)], [], []⟩ ?_
     refine Vc [.nil 2 5 1 (.b [])] [0] (rAttr_R ([], false)) (W_ret ?_)
     exact ⟨.inl rfl, by cases h; rfl⟩
    ·replace h := bif_f h g16
     obtain ⟨r34, g17, h⟩ := bind_some' h
     refine Vg hT (fT 2 (rOid_ok n r27) (fT 9 (rText_ok n r34) fN)) [(4, false)] [] [0, 1, 2] ⟨[(1, kP 0 0), (36, kB (!r34))], [], [⟨.blk, 46, 1, 3, .c [.wh 1, .s (.u8 l0_1), .wh 2]⟩, ow 92 l0_0, ob 5 l0_2]⟩ (aP g15 (aP g16 (aP g17 aN))) ?_
     refine Vi ((!r34)) (fun g23 => ?_) (fun g23 => ?_)
     ·replace h := bif_t h g23
      refine Vrs hT [] ⟨[(2, .c (.nils)), (3, kB false)], [], []⟩ ?_
      refine Vc [.nil 2 5 1 (.b [])] [0] (rAttr_R ([], false)) (W_ret ?_)
      exact ⟨.inl rfl, by cases h; rfl⟩
     ·replace h := bif_f h g23
      refine W_skip ?_
      obtain ⟨r39, g18, h⟩ := bind_some' h
      obtain ⟨r40, g19, h⟩ := bind_some' h
      obtain ⟨r45, g20, h⟩ := bind_some' h
      obtain ⟨g21, h⟩ := gd_some h
      refine Vds hT (fT 2 (rOidBody_ok n r39) (fT 3 (rEl_ok n r40) (fT 8 (rEl_ok n r45) fN))) 8 [] [(40, false), (42, false), (44, false)] [] [5] ⟨[(4, kH 0)], [], [nb 5 (r40 ++ r45)]⟩ (aP g18 (aP g19 (aP g20 (aP g21 aN)))) ?_
      obtain ⟨r48, g22, h⟩ := bind_some' h
      refine Vgs hT (fT 1 (rEl_ok n r48) fN) [] [] [1] ⟨[(2, kH 0), (3, kB true)], [], [nb 5 r48]⟩ (aP g22 aN) ?_
      refine Vc [] [0] (rAttr_R (r48, true)) (W_ret ?_)
      exact ⟨.inl rfl, by cases h; rfl⟩
def rWrite_l2_E (a0 : List (List (List UInt32 × (UInt8 × List UInt8)))) (l4_1 : List UInt8) (i5_1 : Int) (l6_5 : List UInt8) (l7_5 : List UInt8) (i8_5 : Int) : S := ⟨[(0, kH 0), (4, kH 1), (5, kI i5_1), (6, kH 2), (7, kT l7_5), (8, kI i8_5)], [], [⟨.dp, 47, 1, a0.length, .d (.sl 46 (.pr (.wo 92) (.pr .u8 (.by 5)))) a0⟩, nb 5 l4_1, nb 5 l6_5]⟩
abbrev rWrite_l2_P (n : Nat) (a0 : List (List (List UInt32 × (UInt8 × List UInt8)))) (l4_1 : List UInt8) (i5_1 : Int) (k_l1 : (List UInt8) → Int → Option (List UInt8 × Bool)) (r : List UInt8 × Bool) (fu : Nat) : S → Prop := fun s => ∃ (l6_5 : List UInt8), ∃ (l7_5 : List UInt8), ∃ (i8_5 : Int), s = rWrite_l2_E a0 l4_1 i5_1 l6_5 l7_5 i8_5 ∧ rWrite_l2 n a0 l4_1 i5_1 k_l1 fu l6_5 l7_5 i8_5 = some r
def rWrite_l1_E (a0 : List (List (List UInt32 × (UInt8 × List UInt8)))) (l4_1 : List UInt8) (i5_1 : Int) : S := ⟨[(0, kH 0), (4, kH 1), (5, kI i5_1)], [], [⟨.dp, 47, 1, a0.length, .d (.sl 46 (.pr (.wo 92) (.pr .u8 (.by 5)))) a0⟩, nb 5 l4_1]⟩
abbrev rWrite_l1_P (n : Nat) (a0 : List (List (List UInt32 × (UInt8 × List UInt8)))) (r : List UInt8 × Bool) (fu : Nat) : S → Prop := fun s => ∃ (l4_1 : List UInt8), ∃ (i5_1 : Int), s = rWrite_l1_E a0 l4_1 i5_1 ∧ rWrite_l1 n a0 fu l4_1 i5_1 = some r
def rWrite_R (r : List UInt8 × Bool) : S := ⟨[(2, kH 0), (3, kB r.2)], [], [nb 5 r.1]⟩
def rWrite_ct (n : Nat) (r : List UInt8 × Bool) : Ct := ctc (rD 47 (.sl 46 (.pr (.wo 92) (.pr .u8 (.by 5))))).rd fun _ l0 => ct0 fun H => ([rWrite n l0 = some r], shA H.length (.t [.c (.wh 0), .c (.s (.b r.2))]), shH H.length [nb 5 r.1])
theorem rWrite_ok (n : Nat) (r : List UInt8 × Bool) : FnOk Try.prog Tr 20 (rWrite_ct n r) := by
 refine fnok Try.func20 ?_
 refine HO_c (rD 47 (.sl 46 (.pr (.wo 92) (.pr .u8 (.by 5))))) fun (l0 : List (List (List UInt32 × (UInt8 × List UInt8)))) _ => HO_0 tabO_nma (rWrite_R r) [.tmp 2, .tmp 3] [0] 77 Try.func20 fun w hG h => ?_
 unfold rWrite at h
 have hT := tabO_nma
 refine Vrs hT [0] ⟨[(0, kH 0)], [], [⟨.dp, 47, 1, l0.length, .d (.sl 46 (.pr (.wo 92) (.pr .u8 (.by 5)))) l0⟩]⟩ ?_
 refine W_seq ?_
 refine Vrs hT [0] ⟨[(0, kH 0), (13, kB (decide ((8 : Int) < ((l0.length : Nat) : Int))))], [], [⟨.dp, 47, 1, l0.length, .d (.sl 46 (.pr (.wo 92) (.pr .u8 (.by 5)))) l0⟩]⟩ ?_
 refine Vi ((decide ((8 : Int) < ((l0.length : Nat) : Int)))) (fun g27 => ?_) (fun g27 => ?_)
 ·replace h := bif_t h g27
  refine Vrs hT [] ⟨[(2, .c (.nils)), (3, kB false)], [], []⟩ ?_
  refine Vc [.nil 2 5 1 (.b [])] [0] (rWrite_R ([], false)) (W_ret ?_)
  exact ⟨.inl rfl, by cases h; rfl⟩
 ·replace h := bif_f h g27
  refine W_skip ?_
  refine Vrs hT [0] ⟨[(0, kH 0), (4, .c (.nils))], [], [⟨.dp, 47, 1, l0.length, .d (.sl 46 (.pr (.wo 92) (.pr .u8 (.by 5)))) l0⟩]⟩ ?_
  refine W_seq ?_
  refine Vrs hT [0] ⟨[(0, kH 0), (4, .c (.nils)), (5, kI 0)], [], [⟨.dp, 47, 1, l0.length, .d (.sl 46 (.pr (.wo 92) (.pr .u8 (.by 5)))) l0⟩]⟩ ?_
  refine W_block ?_
  refine Vc [.nil 4 5 1 (.b [])] [0, 1] (rWrite_l1_E l0 [] 0) (W_lp ((rWrite_l1_P n l0 r)) n ⟨_, _, rfl, h⟩ ?_)
  rintro fu_l1 _ ⟨l4_1, i5_1, rfl, h⟩
  cases fu_l1 with
  | zero => cases h
  | succ fu_l1 =>
   refine ⟨fu_l1, rfl, ?_⟩
   rw [rWrite_l1] at h
   refine W_seq ?_
   refine Vrs hT [0, 1] ⟨[(0, kH 0), (4, kH 1), (5, kI i5_1), (17, kB (decide (i5_1 < ((l0.length : Nat) : Int))))], [], [⟨.dp, 47, 1, l0.length, .d (.sl 46 (.pr (.wo 92) (.pr .u8 (.by 5)))) l0⟩, nb 5 l4_1]⟩ ?_
   refine Vi ((decide (i5_1 < ((l0.length : Nat) : Int)))) (fun g26 => ?_) (fun g26 => ?_)
   ·replace h := bif_t h g26
    refine Vc [] [0, 1] ⟨[(0, kH 0), (4, kH 1), (5, kI i5_1)], [], [⟨.dp, 47, 1, l0.length, .d (.sl 46 (.pr (.wo 92) (.pr .u8 (.by 5)))) l0⟩, nb 5 l4_1]⟩ (W_skip ?_)
    refine W_seq ?_
    refine W_block ?_
    refine W_seq ?_
    refine W_seq ?_
    obtain ⟨g1, g2, h⟩ := gd2 h
    rcases Bool.eq_false_or_eq_true (decide ((((l0.getD i5_1.toNat []).length : Nat) : Int) < (1 : Int))) with g3 | g3
    ·replace h := bif_t h g3
     refine Vg hT fN [(6, true)] [] [0, 1] ⟨[(0, kH 0), (4, kH 1), (5, kI i5_1), (33, kB true)], [], [⟨.dp, 47, 1, l0.length, .d (.sl 46 (.pr (.wo 92) (.pr .u8 (.by 5)))) l0⟩, nb 5 l4_1]⟩ (aP g1 (aP g2 (aP g3 aN))) ?_
     refine Vi (true) (fun _ => ?_) (fun hb => by cases hb)
     refine Vrs hT [] ⟨[(2, .c (.nils)), (3, kB false)], [], []⟩ ?_
     refine Vc [.nil 2 5 1 (.b [])] [0] (rWrite_R ([], false)) (W_ret ?_)
     exact ⟨.inl rfl, by cases h; rfl⟩
    ·replace h := bif_f h g3
     obtain ⟨g4, g5, h⟩ := gd2 h
     refine Vg hT fN [(6, false)] [] [0, 1] ⟨[(0, kH 0), (4, kH 1), (5, kI i5_1), (33, kB (decide ((4 : Int) < (((l0.getD i5_1.toNat []).length : Nat) : Int))))], [], [⟨.dp, 47, 1, l0.length, .d (.sl 46 (.pr (.wo 92) (.pr .u8 (.by 5)))) l0⟩, nb 5 l4_1]⟩ (aP g1 (aP g2 (aP g3 (aP g4 (aP g5 aN))))) ?_
     refine Vi ((decide ((4 : Int) < (((l0.getD i5_1.toNat []).length : Nat) : Int)))) (fun g24 => ?_) (fun g24 => ?_)
     ·replace h := bif_t h g24
      refine Vrs hT [] ⟨[(2, .c (.nils)), (3, kB false)], [], []⟩ ?_
      refine Vc [.nil 2 5 1 (.b [])] [0] (rWrite_R ([], false)) (W_ret ?_)
      exact ⟨.inl rfl, by cases h; rfl⟩
     ·replace h := bif_f h g24
      refine W_skip ?_
      refine Vrs hT [0, 1] ⟨[(0, kH 0), (4, kH 1), (5, kI i5_1), (6, .c (.nils))], [], [⟨.dp, 47, 1, l0.length, .d (.sl 46 (.pr (.wo 92) (.pr .u8 (.by 5)))) l0⟩, nb 5 l4_1]⟩ ?_
      refine Vrs hT [0, 1] ⟨[(0, kH 0), (4, kH 1), (5, kI i5_1), (6, .c (.nils)), (7, kT ([] : List UInt8))], [], [⟨.dp, 47, 1, l0.length, .d (.sl 46 (.pr (.wo 92) (.pr .u8 (.by 5)))) l0⟩, nb 5 l4_1]⟩ ?_
      refine W_seq ?_
      refine Vrs hT [0, 1] ⟨[(0, kH 0), (4, kH 1), (5, kI i5_1), (6, .c (.nils)), (7, kT ([] : List UInt8)), (8, kI 0)], [], [⟨.dp, 47, 1, l0.length, .d (.sl 46 (.pr (.wo 92) (.pr .u8 (.by 5)))) l0⟩, nb 5 l4_1]⟩ ?_
      refine W_block ?_
      refine Vc [.nil 6 5 1 (.b [])] [0, 1, 2] (rWrite_l2_E l0 l4_1 i5_1 [] ([] : List UInt8) 0) (W_lp ((rWrite_l2_P n l0 l4_1 i5_1 (rWrite_l1 n l0 fu_l1) r)) n ⟨_, _, _, rfl, h⟩ ?_)
      rintro fu_l2 _ ⟨l6_5, l7_5, i8_5, rfl, h⟩
      cases fu_l2 with
      | zero => cases h
      | succ fu_l2 =>
       refine ⟨fu_l2, rfl, ?_⟩
       rw [rWrite_l2] at h
       refine W_seq ?_
       obtain ⟨g6, g7, h⟩ := gd2 h
       refine Vgs hT fN [] [] [0, 1, 2] ⟨[(0, kH 0), (4, kH 1), (5, kI i5_1), (6, kH 2), (7, kT l7_5), (8, kI i8_5), (40, kB (decide (i8_5 < (((l0.getD i5_1.toNat []).length : Nat) : Int))))], [], [⟨.dp, 47, 1, l0.length, .d (.sl 46 (.pr (.wo 92) (.pr .u8 (.by 5)))) l0⟩, nb 5 l4_1, nb 5 l6_5]⟩ (aP g6 (aP g7 aN)) ?_
       refine Vi ((decide (i8_5 < (((l0.getD i5_1.toNat []).length : Nat) : Int)))) (fun g23 => ?_) (fun g23 => ?_)
       ·replace h := bif_t h g23
        refine W_skip ?_
        refine W_seq ?_
        refine W_block ?_
        obtain ⟨g8, g9, g10, g11, h⟩ := gd4 h
        obtain ⟨r51_8, g12, h⟩ := bind_some' h
        refine Vgs hT (fT 7 (rAttr_ok n r51_8) fN) [] [] [0, 1, 2, 3] ⟨[(0, kH 0), (4, kH 1), (5, kI i5_1), (6, kH 2), (7, kT l7_5), (8, kI i8_5), (9, kH 3), (10, kB r51_8.2)], [], [⟨.dp, 47, 1, l0.length, .d (.sl 46 (.pr (.wo 92) (.pr .u8 (.by 5)))) l0⟩, nb 5 l4_1, nb 5 l6_5, nb 5 r51_8.1]⟩ (aP g8 (aP g9 (aP g10 (aP g11 (aP g12 aN))))) ?_
        refine W_seq ?_
        refine W_seq ?_
        rcases Bool.eq_false_or_eq_true (!r51_8.2) with g13 | g13
        ·replace h := bif_t h g13
         refine Vg hT fN [(2, true)] [] [0, 1, 2, 3] ⟨[(0, kH 0), (4, kH 1), (5, kI i5_1), (6, kH 2), (8, kI i8_5), (9, kH 3), (65, kB true)], [], [⟨.dp, 47, 1, l0.length, .d (.sl 46 (.pr (.wo 92) (.pr .u8 (.by 5)))) l0⟩, nb 5 l4_1, nb 5 l6_5, nb 5 r51_8.1]⟩ (aP g13 aN) ?_
         refine Vi (true) (fun _ => ?_) (fun hb => by cases hb)
         refine Vrs hT [] ⟨[(2, .c (.nils)), (3, kB false)], [], []⟩ ?_
         refine Vc [.nil 2 5 1 (.b [])] [0] (rWrite_R ([], false)) (W_ret ?_)
         exact ⟨.inl rfl, by cases h; rfl⟩
        ·replace h := bif_f h g13
         rcases Bool.eq_false_or_eq_true (decide ((0 : Int) < i8_5)) with g14 | g14
         ·replace h := bif_t h g14
          refine Vg hT fN [(2, false), (5, true)] [] [0, 1, 2, 3] ⟨[(0, kH 0), (4, kH 1), (5, kI i5_1), (6, kH 2), (8, kI i8_5), (9, kH 3), (65, kB (!Op.bytesLess l7_5 r51_8.1))], [], [⟨.dp, 47, 1, l0.length, .d (.sl 46 (.pr (.wo 92) (.pr .u8 (.by 5)))) l0⟩, nb 5 l4_1, nb 5 l6_5, nb 5 r51_8.1]⟩ (aP g13 (aP g14 aN)) ?_
          refine Vi ((!Op.bytesLess l7_5 r51_8.1)) (fun g17 => ?_) (fun g17 => ?_)
          ·replace h := bif_t h g17
           refine Vrs hT [] ⟨[(2, .c (.nils)), (3, kB false)], [], []⟩ ?_
           refine Vc [.nil 2 5 1 (.b [])] [0] (rWrite_R ([], false)) (W_ret ?_)
           exact ⟨.inl rfl, by cases h; rfl⟩
          ·replace h := bif_f h g17
           refine W_skip ?_
           refine Vrs hT [0, 1, 2, 3] ⟨[(0, kH 0), (4, kH 1), (5, kI i5_1), (6, kH 2), (7, kT r51_8.1), (8, kI i8_5), (9, kH 3)], [], [⟨.dp, 47, 1, l0.length, .d (.sl 46 (.pr (.wo 92) (.pr .u8 (.by 5)))) l0⟩, nb 5 l4_1, nb 5 l6_5, nb 5 r51_8.1]⟩ ?_
           obtain ⟨g15, h⟩ := gd_some h
           refine Vg hT fN [] [] [0, 1, 4] ⟨[(0, kH 0), (4, kH 1), (5, kI i5_1), (6, kH 2), (7, kT r51_8.1), (8, kI i8_5)], [], [⟨.dp, 47, 1, l0.length, .d (.sl 46 (.pr (.wo 92) (.pr .u8 (.by 5)))) l0⟩, nb 5 l4_1, nb 5 (l6_5 ++ r51_8.1)]⟩ (aP g15 aN) ?_
           obtain ⟨g16, h⟩ := gd_some h
           refine Vg hT fN [] [] [0, 1, 2] (rWrite_l2_E l0 l4_1 i5_1 (l6_5 ++ r51_8.1) r51_8.1 (i8_5 + 1)) (aP g16 aN) ?_
           exact ⟨_, _, _, rfl, h⟩
         ·replace h := bif_f h g14
          refine Vg hT fN [(2, false), (5, false)] [] [0, 1, 2, 3] ⟨[(0, kH 0), (4, kH 1), (5, kI i5_1), (6, kH 2), (8, kI i8_5), (9, kH 3), (65, kB false)], [], [⟨.dp, 47, 1, l0.length, .d (.sl 46 (.pr (.wo 92) (.pr .u8 (.by 5)))) l0⟩, nb 5 l4_1, nb 5 l6_5, nb 5 r51_8.1]⟩ (aP g13 (aP g14 aN)) ?_
          refine Vi (false) (fun hb => by cases hb) (fun _ => ?_)
          refine W_skip ?_
          refine Vrs hT [0, 1, 2, 3] ⟨[(0, kH 0), (4, kH 1), (5, kI i5_1), (6, kH 2), (7, kT r51_8.1), (8, kI i8_5), (9, kH 3)], [], [⟨.dp, 47, 1, l0.length, .d (.sl 46 (.pr (.wo 92) (.pr .u8 (.by 5)))) l0⟩, nb 5 l4_1, nb 5 l6_5, nb 5 r51_8.1]⟩ ?_
          obtain ⟨g18, h⟩ := gd_some h
          refine Vg hT fN [] [] [0, 1, 4] ⟨[(0, kH 0), (4, kH 1), (5, kI i5_1), (6, kH 2), (7, kT r51_8.1), (8, kI i8_5)], [], [⟨.dp, 47, 1, l0.length, .d (.sl 46 (.pr (.wo 92) (.pr .u8 (.by 5)))) l0⟩, nb 5 l4_1, nb 5 (l6_5 ++ r51_8.1)]⟩ (aP g18 aN) ?_
          obtain ⟨g19, h⟩ := gd_some h
          refine Vg hT fN [] [] [0, 1, 2] (rWrite_l2_E l0 l4_1 i5_1 (l6_5 ++ r51_8.1) r51_8.1 (i8_5 + 1)) (aP g19 aN) ?_
          exact ⟨_, _, _, rfl, h⟩
       ·replace h := bif_f h g23
        refine Vc [] [0, 1, 2] ⟨[(0, kH 0), (4, kH 1), (5, kI i5_1), (6, kH 2)], [], [⟨.dp, 47, 1, l0.length, .d (.sl 46 (.pr (.wo 92) (.pr .u8 (.by 5)))) l0⟩, nb 5 l4_1, nb 5 l6_5]⟩ (W_exit ?_)
        obtain ⟨r73_5, g20, h⟩ := bind_some' h
        obtain ⟨g21, h⟩ := gd_some h
        refine Vg hT (fT 2 (rEl_ok n r73_5) fN) [] [] [0, 4] ⟨[(0, kH 0), (4, kH 1), (5, kI i5_1)], [], [⟨.dp, 47, 1, l0.length, .d (.sl 46 (.pr (.wo 92) (.pr .u8 (.by 5)))) l0⟩, nb 5 (l4_1 ++ r73_5)]⟩ (aP g20 (aP g21 aN)) ?_
        obtain ⟨g22, h⟩ := gd_some h
        refine Vg hT fN [] [] [0, 1] (rWrite_l1_E l0 (l4_1 ++ r73_5) (i5_1 + 1)) (aP g22 aN) ?_
        exact ⟨_, _, rfl, h⟩
   ·replace h := bif_f h g26
    refine Vc [] [1] ⟨[(4, kH 0)], [], [nb 5 l4_1]⟩ (W_exit ?_)
    obtain ⟨r76_1, g25, h⟩ := bind_some' h
    refine Vgs hT (fT 1 (rEl_ok n r76_1) fN) [] [] [1] ⟨[(2, kH 0), (3, kB true)], [], [nb 5 r76_1]⟩ (aP g25 aN) ?_
    refine Vc [] [0] (rWrite_R (r76_1, true)) (W_ret ?_)
    exact ⟨.inl rfl, by cases h; rfl⟩
def lWrites_R (r : Bool) : S := ⟨[(2, kB r)], [], []⟩
def lWrites_ct (n : Nat) (r : Bool) : Ct := ctc (rD 47 (.sl 46 (.pr (.wo 92) (.pr .u8 (.by 5))))).rd fun _ l0 => ct0 fun H => ([lWrites n l0 = some r], shA H.length (kB r), shH H.length [])
theorem lWrites_ok (n : Nat) (r : Bool) : FnOk Try.prog Tr 6 (lWrites_ct n r) := by
 refine fnok Try.func6 ?_
 refine HO_c (rD 47 (.sl 46 (.pr (.wo 92) (.pr .u8 (.by 5))))) fun (l0 : List (List (List UInt32 × (UInt8 × List UInt8)))) _ => HO_0 tabO_nma (lWrites_R r) [.tmp 2] [] 62 Try.func6 fun w hG h => ?_
 unfold lWrites at h
 have hT := tabO_nma
 refine Vrs hT [0] ⟨[(0, kH 0)], [], [⟨.dp, 47, 1, l0.length, .d (.sl 46 (.pr (.wo 92) (.pr .u8 (.by 5)))) l0⟩]⟩ ?_
 obtain ⟨r10, g1, h⟩ := bind_some' h
 refine Vgs hT (fT 0 (lup_ok n r10) fN) [] [] [0] ⟨[(0, kH 0), (3, kB r10)], [], [⟨.dp, 47, 1, l0.length, .d (.sl 46 (.pr (.wo 92) (.pr .u8 (.by 5)))) l0⟩]⟩ (aP g1 aN) ?_
 obtain ⟨r12, g2, h⟩ := bind_some' h
 refine Vgs hT (fT 1 (light_ok n r12) fN) [] [] [0] ⟨[(0, kH 0), (3, kB r10), (4, kB r12)], [], [⟨.dp, 47, 1, l0.length, .d (.sl 46 (.pr (.wo 92) (.pr .u8 (.by 5)))) l0⟩]⟩ (aP g2 aN) ?_
 refine W_seq ?_
 refine Vrs hT [0] ⟨[(0, kH 0), (3, kB r10), (14, kB (!r12))], [], [⟨.dp, 47, 1, l0.length, .d (.sl 46 (.pr (.wo 92) (.pr .u8 (.by 5)))) l0⟩]⟩ ?_
 refine Vi ((!r12)) (fun g15 => ?_) (fun g15 => ?_)
 ·replace h := bif_t h g15
  refine Vrs hT [] ⟨[(2, kB r10)], [], []⟩ ?_
  refine Vc [] [] (lWrites_R r10) (W_ret ?_)
  exact ⟨.inl rfl, by cases h; rfl⟩
 ·replace h := bif_f h g15
  refine W_skip ?_
  obtain ⟨r17, g3, h⟩ := bind_some' h
  refine Vgs hT (fT 1 (nCheck_ok n r17) fN) [] [] [0] ⟨[(0, kH 0), (3, kB r10), (5, kE 38 r17)], [], [⟨.dp, 47, 1, l0.length, .d (.sl 46 (.pr (.wo 92) (.pr .u8 (.by 5)))) l0⟩]⟩ (aP g3 aN) ?_
  obtain ⟨r20, g4, h⟩ := bind_some' h
  refine Vgs hT (fT 1 (nWrite_ok n r20) fN) [] [] [0, 1] ⟨[(0, kH 0), (3, kB r10), (5, kE 38 r17), (6, kH 1), (7, kE 38 r20.2)], [], [⟨.dp, 47, 1, l0.length, .d (.sl 46 (.pr (.wo 92) (.pr .u8 (.by 5)))) l0⟩, nb 5 r20.1]⟩ (aP g4 aN) ?_
  obtain ⟨r25, g5, h⟩ := bind_some' h
  refine Vgs hT (fT 1 (rWrite_ok n r25) fN) [] [] [1, 2] ⟨[(3, kB r10), (5, kE 38 r17), (6, kH 0), (7, kE 38 r20.2), (8, kH 1), (9, kB r25.2)], [], [nb 5 r20.1, nb 5 r25.1]⟩ (aP g5 aN) ?_
  refine W_seq ?_
  refine Vrs hT [0, 1] ⟨[(3, kB r10), (5, kE 38 r17), (6, kH 0), (7, kE 38 r20.2), (8, kH 1), (29, kB (!r25.2))], [], [nb 5 r20.1, nb 5 r25.1]⟩ ?_
  refine Vi ((!r25.2)) (fun g14 => ?_) (fun g14 => ?_)
  ·replace h := bif_t h g14
   refine W_seq ?_
   rcases Bool.eq_false_or_eq_true r10 with g6 | g6
   ·replace h := bif_t h g6
    obtain ⟨g7, h⟩ := gd_some h
    rcases Bool.eq_false_or_eq_true (r17 == (some 1)) with g8 | g8
    ·replace h := bif_t h g8
     obtain ⟨g9, h⟩ := gd_some h
     rcases Bool.eq_false_or_eq_true (r20.2 == (some 1)) with g10 | g10
     ·replace h := bif_t h g10
      refine Vg hT fN [(1, true), (6, true), (11, true)] [] [] ⟨[(2, kB (((r20.1.length : Nat) : Int) == 0))], [], []⟩ (aP g6 (aP g7 (aP g8 (aP g9 (aP g10 aN))))) ?_
      refine Vc [] [] (lWrites_R (((r20.1.length : Nat) : Int) == 0)) (W_ret ?_)
      exact ⟨.inl rfl, by cases h; rfl⟩
     ·replace h := bif_f h g10
      refine Vg hT fN [(1, true), (6, true), (11, false)] [] [] ⟨[(2, kB false)], [], []⟩ (aP g6 (aP g7 (aP g8 (aP g9 (aP g10 aN))))) ?_
      refine Vc [] [] (lWrites_R false) (W_ret ?_)
      exact ⟨.inl rfl, by cases h; rfl⟩
    ·replace h := bif_f h g8
     refine Vg hT fN [(1, true), (6, false)] [] [] ⟨[(2, kB false)], [], []⟩ (aP g6 (aP g7 (aP g8 aN))) ?_
     refine Vc [] [] (lWrites_R false) (W_ret ?_)
     exact ⟨.inl rfl, by cases h; rfl⟩
   ·replace h := bif_f h g6
    refine Vg hT fN [(1, false)] [] [] ⟨[(2, kB false)], [], []⟩ (aP g6 aN) ?_
    refine Vc [] [] (lWrites_R false) (W_ret ?_)
    exact ⟨.inl rfl, by cases h; rfl⟩
  ·replace h := bif_f h g14
   refine Vc [] [0, 1] ⟨[(3, kB r10), (5, kE 38 r17), (6, kH 0), (7, kE 38 r20.2), (8, kH 1)], [], [nb 5 r20.1, nb 5 r25.1]⟩ (W_skip ?_)
   refine W_seq ?_
   rcases Bool.eq_false_or_eq_true r10 with g11 | g11
   ·replace h := bif_t h g11
    rcases Bool.eq_false_or_eq_true ((r17).isNone) with g12 | g12
    ·replace h := bif_t h g12
     rcases Bool.eq_false_or_eq_true ((r20.2).isNone) with g13 | g13
     ·replace h := bif_t h g13
      refine Vg hT fN [(1, true), (5, true), (9, true)] [] [] ⟨[(2, kB (r20.1 == r25.1))], [], []⟩ (aP g11 (aP g12 (aP g13 aN))) ?_
      refine Vc [] [] (lWrites_R (r20.1 == r25.1)) (W_ret ?_)
      exact ⟨.inl rfl, by cases h; rfl⟩
     ·replace h := bif_f h g13
      refine Vg hT fN [(1, true), (5, true), (9, false)] [] [] ⟨[(2, kB false)], [], []⟩ (aP g11 (aP g12 (aP g13 aN))) ?_
      refine Vc [] [] (lWrites_R false) (W_ret ?_)
      exact ⟨.inl rfl, by cases h; rfl⟩
    ·replace h := bif_f h g12
     refine Vg hT fN [(1, true), (5, false)] [] [] ⟨[(2, kB false)], [], []⟩ (aP g11 (aP g12 aN)) ?_
     refine Vc [] [] (lWrites_R false) (W_ret ?_)
     exact ⟨.inl rfl, by cases h; rfl⟩
   ·replace h := bif_f h g11
    refine Vg hT fN [(1, false)] [] [] ⟨[(2, kB false)], [], []⟩ (aP g11 aN) ?_
    refine Vc [] [] (lWrites_R false) (W_ret ?_)
    exact ⟨.inl rfl, by cases h; rfl⟩
end Go.Proofs.Ytobfglafchoipaa
end
section
namespace Go.Sx
open Go Go.RowKit Go.Ch Go.Proofs.Ytobfglafchoipaa
theorem mk_all : ∀ i : Fin 256, ((UInt8.ofNat i.1 &&& 31) != 31) = ((UInt8.ofNat i.1 % 32) != 31) := by decide +kernel
theorem mk_eq (x : UInt8) : ((x &&& 31) != 31) = ((x % 32) != 31) := by simpa using mk_all ⟨x.toNat, x.toNat_lt⟩
theorem tvalid_is (n : Nat) (x : UInt8) : tvalid n x = some (x % 32 != 31) := by unfold tvalid; rw [mk_eq]
theorem ofInt_mod (x : Int) : UInt8.ofInt (x % 256) = UInt8.ofInt x := by
 unfold UInt8.ofInt; congr 2; omega
def hdF (m : UInt8) (k : Int) : List UInt8 := bif decide (k < 128) then [m, UInt8.ofInt k] else bif decide (k < 256) then [m, 129, UInt8.ofInt k] else [m, 130, UInt8.ofInt (k / 256), UInt8.ofInt k]
theorem hdF_len (m : UInt8) (k : Int) : (hdF m k).length ≤ 4 := by
 unfold hdF; cases decide (k < 128) with
 | true => simp
 | false => cases decide (k < 256) with
  | true => simp
  | false => simp
theorem tHead_is (n : Nat) {m : UInt8} {k : Int} (hm : (m % 32 != 31) = true) (h0 : 0 ≤ k) (h1 : k ≤ 65535) : tHead n m k = some (hdF m k, none) := by
 unfold tHead hdF
 rw [tvalid_is, Option.bind_some, ite_f (by rw [hm]; rfl), ite_f (decide_eq_false (by omega)), ite_f (decide_eq_false (by omega))]
 cases decide (k < 128) with
 | true => rfl
 | false => cases decide (k < 256) with
  | true => rfl
  | false => simp only [cond_false]; rw [gd_pos (by decide), gd_pos (by decide)]; rfl
theorem rHead_is (n : Nat) {m : UInt8} {k : Int} (h0 : 0 ≤ k) (h1 : k ≤ 9223372036854775807) : rHead n m k = some (hdF m k) := by
 unfold rHead hdF
 cases decide (k < 128) with
 | true => rfl
 | false => cases decide (k < 256) with
  | true => rfl
  | false =>
   simp only [cond_false]
   have e : Int.tdiv k 256 = k / 256 := Int.tdiv_eq_ediv_of_nonneg h0
   have e2 : Int.tmod k 256 = k % 256 := Int.tmod_eq_emod_of_nonneg h0
   rw [gd_pos (by decide), e, e2, gd_pos (okI64 (by omega) (by omega)), gd_pos (by decide), ofInt_mod]
theorem rEl_is (n : Nat) (m : UInt8) {b : List UInt8} (h : b.length ≤ 1000000) : rEl n m b = some (hdF m (b.length : Int) ++ b) := by
 unfold rEl
 have := hdF_len m (b.length : Int)
 rw [rHead_is n (by omega) (by omega), Option.bind_some, gd_pos (by unfold rmB; omega)]
end Go.Sx
end
section
namespace Go.Sx
open Go Go.RowKit Go.Ch Go.Proofs.Ytobfglafchoipaa
theorem bodyOf_len {l : List UInt32} (h : oidOk l = true) : (bodyOf l).length ≤ 102 := by
 have := oidOk_len h
 have h1 := grp_len (40 * l.getD 0 0 + l.getD 1 0)
 have h2 := grps_len (l.drop 2)
 unfold bodyOf
 rw [List.length_append]; rw [List.length_drop] at h2; omega
def mkOk (m : UInt8) : Bool := m == 12 || m == 19
theorem mkOk_or {m : UInt8} (h : mkOk m = true) : m = 12 ∨ m = 19 := by unfold mkOk at h; simpa using h
def atOk (x : AttrT) : Bool := mkOk x.2.1 && (decide (1 ≤ x.2.2.length) && (decide (x.2.2.length ≤ 64) && (oidOk x.1 && txOk x.2.1 x.2.2)))
def elF (m : UInt8) (b : List UInt8) : List UInt8 := hdF m (b.length : Int) ++ b
theorem elF_len (m : UInt8) (b : List UInt8) : (elF m b).length ≤ 4 + b.length := by
 have := hdF_len m (b.length : Int)
 unfold elF; rw [List.length_append]; omega
def atF (x : AttrT) : List UInt8 := elF 48 (elF 6 (bodyOf x.1) ++ elF x.2.1 x.2.2)
theorem atOk_parts {x : AttrT} (h : atOk x = true) : mkOk x.2.1 = true ∧ 1 ≤ x.2.2.length ∧ x.2.2.length ≤ 64 ∧ oidOk x.1 = true ∧ txOk x.2.1 x.2.2 = true := by
 unfold atOk at h; simpa using h
theorem atF_len {x : AttrT} (h : atOk x = true) : (atF x).length ≤ 200 := by
 obtain ⟨_, _, h3, h4, _⟩ := atOk_parts h
 have e1 := elF_len 48 (elF 6 (bodyOf x.1) ++ elF x.2.1 x.2.2)
 have e2 := elF_len 6 (bodyOf x.1)
 have e3 := elF_len x.2.1 x.2.2
 have e4 := bodyOf_len h4
 unfold atF; rw [List.length_append] at e1; omega
theorem rEl_el (n : Nat) (m : UInt8) {b : List UInt8} (h : b.length ≤ 1000000) : rEl n m b = some (elF m b) := rEl_is n m h
theorem tisW_12 (n : Nat) {m : UInt8} (hm : m = 6 ∨ m = 12 ∨ m = 19) : tisW n m = some false ∧ (m % 32 != 31) = true := by rcases hm with rfl | rfl | rfl <;> exact ⟨rfl, by decide⟩
theorem wPut2_is {n : Nat} {m : UInt8} (hm : m = 6 ∨ m = 12 ∨ m = 19) {a b : List UInt8} (ha : a.length ≤ 100000) (hb : b.length ≤ 60000) : wPut2 n 0 [] 48 a m b = some (a ++ elF m b) := by
 have := hdF_len m (b.length : Int)
 unfold wPut2 wadd2
 rw [tvalid_is, Option.bind_some, (tisW_12 n hm).2, ite_f (by rfl), (tisW_12 n hm).1, Option.bind_some, ite_f (by rfl), tHead_is n (tisW_12 n hm).2 (by omega) (by omega), Option.bind_some, ite_f (by rfl)]
 rw [gd_pos (by decide), gd_pos (by decide), gd_pos (by decide), gd_pos (by decide), gd_pos (by unfold rmB; simp; omega), gd_pos (by unfold rmB; simp; omega), gd_pos (by decide), Option.bind_some]
 unfold elF; rw [List.append_assoc]
theorem wClose2_is {n : Nat} {b : List UInt8} (hb : b.length ≤ 60000) : wClose2 n 0 [] 48 b = some (elF 48 b) := by
 have := hdF_len 48 (b.length : Int)
 unfold wClose2 wadd1 elF
 rw [gd_pos (by decide), gd_pos (by decide), gd_pos (by decide), gd_pos (by decide), gd_pos (by decide), gd_pos (by decide), gd_pos (by decide), tHead_is n (by decide) (by omega) (by omega), Option.bind_some, ite_f (by rfl)]
 rw [gd_pos (by decide), gd_pos (by decide), gd_pos (by decide), gd_pos (by decide), gd_pos (by unfold rmB; simp; omega), gd_pos (by unfold rmB; simp; omega), gd_pos (by decide), Option.bind_some, List.nil_append]
theorem wAttr {n : Nat} {o t : List UInt8} {m : UInt8} (hm : m = 12 ∨ m = 19) (ho : o.length ≤ 1000) (ht : t.length ≤ 1000) :
  (wNew n).bind (fun _ => (wOpen1 n 0 [] 48).bind fun _ => (wPut2 n 0 [] 48 [] 6 o).bind fun r51 => (wPut2 n 0 [] 48 r51 m t).bind fun r57 => (wClose2 n 0 [] 48 r57).bind fun r59 => (wBytes1 n 0 r59).bind fun _ => some (r59, (none : Option Int))) = some (elF 48 (elF 6 o ++ elF m t), none) := by
 have h1 := elF_len 6 o
 have h2 := elF_len m t
 have h3 := elF_len 48 (elF 6 o ++ elF m t)
 rw [List.length_append] at h3
 have ew : wOpen1 n 0 [] 48 = some () := by
  unfold wOpen1
  rw [tvalid_is, Option.bind_some, ite_f (by decide), show tisW n 48 = some true from rfl, Option.bind_some, ite_f (by rfl), gd_pos (by unfold rmB; omega)]
 have eb : wBytes1 n 0 (elF 48 (elF 6 o ++ elF m t)) = some () := by
  unfold wBytes1; rw [gd_pos (by decide), gd_pos (by decide), gd_pos (by decide), gd_pos (by omega)]
 rw [show wNew n = some () from rfl, Option.bind_some, ew, Option.bind_some, wPut2_is (.inl rfl) (by simp) (by omega), Option.bind_some, List.nil_append, wPut2_is (.inr hm) (by omega) (by omega), Option.bind_some, wClose2_is (by simp; omega), Option.bind_some, eb, Option.bind_some]
theorem nAttr_is {n : Nat} (hn : 3000 ≤ n) {x : AttrT} (hx : x.2.2.length ≤ 2000) : nAttr n x.1 x.2.1 x.2.2 = some (if atOk x = true then (atF x, none) else ([], some 1)) := by
 obtain ⟨ty, mk, tx⟩ := x
 simp only at hx ⊢
 have rest : oidOk ty = true → mkOk mk = true → (bif (decide (((tx.length : Nat) : Int) < (1 : Int))) then some (([], some 1) : List UInt8 × Option Int) else
    bif (decide ((64 : Int) < ((tx.length : Nat) : Int))) then some ([], (some 1)) else
     (pText n mk tx).bind fun r42 =>
     bif (!((r42).isNone)) then some ([], (some 1)) else
      (wNew n).bind fun _ => (wOpen1 n 0 [] 48).bind fun _ => (wPut2 n 0 [] 48 [] 6 (bodyOf ty)).bind fun r51 => (wPut2 n 0 [] 48 r51 mk tx).bind fun r57 => (wClose2 n 0 [] 48 r57).bind fun r59 => (wBytes1 n 0 r59).bind fun _ => some (r59, none)) = some (if atOk (ty, mk, tx) = true then (atF (ty, mk, tx), none) else ([], some 1)) := by
  intro ho hm
  have e : atOk (ty, mk, tx) = (decide (1 ≤ tx.length) && (decide (tx.length ≤ 64) && txOk mk tx)) := by unfold atOk; simp only [ho, hm, Bool.true_and]
  rw [e]
  by_cases h1 : tx.length < 1
  ·rw [ite_t (decide_eq_true (by omega)), decide_eq_false (show ¬ 1 ≤ tx.length by omega)]; rfl
  ·rw [ite_f (decide_eq_false (by omega)), decide_eq_true (show 1 ≤ tx.length by omega), Bool.true_and]
   by_cases h2 : 64 < tx.length
   ·rw [ite_t (decide_eq_true (by omega)), decide_eq_false (show ¬ tx.length ≤ 64 by omega)]; rfl
   ·rw [ite_f (decide_eq_false (by omega)), decide_eq_true (show tx.length ≤ 64 by omega), Bool.true_and, pText_is (mkOk_or hm) tx hx, Option.bind_some]
    cases txOk mk tx with
    | false => rfl
    | true =>
     have := bodyOf_len ho
     exact wAttr (mkOk_or hm) (by omega) (by omega)
 unfold nAttr
 rw [pOid_is (by omega), Option.bind_some]
 cases ho : oidOk ty with
 | false =>
  have e : atOk (ty, mk, tx) = false := by unfold atOk; simp [ho]
  rw [e]; rfl
 | true =>
  rw [if_pos rfl]
  rw [show (!((((bodyOf ty, none) : List UInt8 × Option Int).2).isNone)) = false from rfl]
  simp only [cond_false]
  by_cases hc : mk = 12
  ·rw [ite_f (by rw [hc]; decide)]
   exact rest ho (by rw [hc]; rfl)
  ·rw [ite_t (by simpa using hc)]
   by_cases hd : mk = 19
   ·rw [ite_f (by rw [hd]; decide)]
    exact rest ho (by rw [hd]; rfl)
   ·rw [ite_t (by simpa using hd)]
    have e : atOk (ty, mk, tx) = false := by unfold atOk mkOk; simp [hc, hd]
    rw [e]; rfl
theorem rAttr_is {n : Nat} (hn : 3000 ≤ n) {x : AttrT} (hx : x.2.2.length ≤ 2000) : rAttr n x.1 x.2.1 x.2.2 = some (if atOk x = true then (atF x, true) else ([], false)) := by
 obtain ⟨ty, mk, tx⟩ := x
 simp only at hx ⊢
 have rest : mkOk mk = true → (bif (decide (((tx.length : Nat) : Int) < (1 : Int))) then some (([], false) : List UInt8 × Bool) else
    bif (decide ((64 : Int) < ((tx.length : Nat) : Int))) then some ([], false) else
     (rOid n ty).bind fun r27 =>
     bif (!r27) then some ([], false) else
      (rText n mk tx).bind fun r34 =>
      bif (!r34) then some ([], false) else
       (rOidBody n ty).bind fun r39 =>
       (rEl n 6 r39).bind fun r40 =>
       (rEl n mk tx).bind fun r45 =>
       gd (rmB (r40.length + r45.length) 1) <|
       (rEl n 48 (r40 ++ r45)).bind fun r48 =>
       some (r48, true)) = some (if atOk (ty, mk, tx) = true then (atF (ty, mk, tx), true) else ([], false)) := by
  intro hm
  have e : atOk (ty, mk, tx) = (decide (1 ≤ tx.length) && (decide (tx.length ≤ 64) && (oidOk ty && txOk mk tx))) := by unfold atOk; simp only [hm, Bool.true_and]
  rw [e]
  by_cases h1 : tx.length < 1
  ·rw [ite_t (decide_eq_true (by omega)), decide_eq_false (show ¬ 1 ≤ tx.length by omega)]; rfl
  ·rw [ite_f (decide_eq_false (by omega)), decide_eq_true (show 1 ≤ tx.length by omega), Bool.true_and]
   by_cases h2 : 64 < tx.length
   ·rw [ite_t (decide_eq_true (by omega)), decide_eq_false (show ¬ tx.length ≤ 64 by omega)]; rfl
   ·rw [ite_f (decide_eq_false (by omega)), decide_eq_true (show tx.length ≤ 64 by omega), Bool.true_and, rOid_is, Option.bind_some]
    cases ho : oidOk ty with
    | false => rfl
    | true =>
     rw [ite_f (by rfl), rText_is (mkOk_or hm) tx hx hn, Option.bind_some, Bool.true_and]
     cases txOk mk tx with
     | false => rfl
     | true =>
      have hl := oidOk_len ho
      have h3 := bodyOf_len ho
      have e1 := elF_len 6 (bodyOf ty)
      have e2 := elF_len mk tx
      rw [ite_f (by rfl), rOidBody_is (by omega) hl.1 (by omega), Option.bind_some, rEl_el n 6 (by omega), Option.bind_some, rEl_el n mk (by omega), Option.bind_some, gd_pos (by unfold rmB; omega), rEl_el n 48 (by simp; omega), Option.bind_some]
      rfl
 unfold rAttr
 by_cases hc : mk = 12
 ·rw [ite_f (by rw [hc]; decide)]
  exact rest (by rw [hc]; rfl)
 ·rw [ite_t (by simpa using hc)]
  by_cases hd : mk = 19
  ·rw [ite_f (by rw [hd]; decide)]
   exact rest (by rw [hd]; rfl)
  ·rw [ite_t (by simpa using hd)]
   have e : atOk (ty, mk, tx) = false := by unfold atOk mkOk; simp [hc, hd]
   rw [e]; rfl
theorem cmp_less : ∀ a b : List UInt8, decide ((0 : Int) ≤ Lib.compareBytes a b) = !Op.bytesLess a b
 | [], [] => rfl
 | [], _ :: _ => by simp [Lib.compareBytes, Op.bytesLess]
 | _ :: _, [] => by simp [Lib.compareBytes, Op.bytesLess]
 | x :: a, y :: b => by
  have ih := cmp_less a b
  unfold Lib.compareBytes Op.bytesLess
  by_cases h : x < y
  ·simp [h]
  ·by_cases h2 : y < x
   ·have : x ≠ y := fun e => UInt8.lt_irrefl y (by rw [e] at h2; exact h2)
    simp [h, h2, this]
   ·have : x = y := by
     have h3 := UInt8.not_lt.1 h
     have h4 := UInt8.not_lt.1 h2
     exact UInt8.le_antisymm h4 h3
    simp [h, h2, this, ih]
def stpF : List AttrT → Bool → List UInt8 → Option (List UInt8)
 | [], _, _ => some []
 | x :: t, fst, last => if (atOk x && (fst || Op.bytesLess last (atF x))) = true then (stpF t false (atF x)).map (atF x ++ ·) else none
theorem stpF_len : ∀ (l : List AttrT) (f : Bool) (last y : List UInt8), stpF l f last = some y → y.length ≤ 200 * l.length
 | [], _, _, y, h => by injection h with h; rw [← h]; simp
 | x :: t, f, last, y, h => by
  rw [stpF] at h
  split at h
  ·rename_i hc
   obtain ⟨z, hz, rfl⟩ := Option.map_eq_some_iff.1 h
   have h1 := stpF_len t false (atF x) z hz
   have h2 := atF_len (x := x) (by simp at hc; exact hc.1)
   rw [List.length_append, List.length_cons]; omega
  ·cases h
abbrev nmT := List (List AttrT)
def nKa (n : Nat) (l4 : List UInt8) (j : Int) (K : List UInt8 → Int → Option (List UInt8 × Option Int)) : Option (List UInt8) → Option (List UInt8 × Option Int)
 | none => some ([], some 1)
 | some y => K (l4 ++ elF 49 y) (j + 1)
def rKa (l4 : List UInt8) (j : Int) (K : List UInt8 → Int → Option (List UInt8 × Bool)) : Option (List UInt8) → Option (List UInt8 × Bool)
 | none => some ([], false)
 | some y => K (l4 ++ elF 49 y) (j + 1)
def lgT (a : nmT) : Prop := ∀ s ∈ a, ∀ x ∈ s, x.2.2.length ≤ 2000
theorem lgT_at {a : nmT} (h : lgT a) {j i : Nat} (hj : j < a.length) (hi : i < (a.getD j []).length) : ((a.getD j []).getD i ([], (0, []))).2.2.length ≤ 2000 := h _ (getD_in hj) _ (getD_in hi)
theorem nw_l2 {n : Nat} (hn : 3000 ≤ n) {a : nmT} (ha : lgT a) {j : Nat} (hj : j < a.length) (hj8 : a.length ≤ 8) (l4 : List UInt8) (hl4 : l4.length ≤ 100000) (h4 : (a.getD j []).length ≤ 4) (K : List UInt8 → Int → Option (List UInt8 × Option Int)) :
  ∀ (fu i : Nat) (acc last : List UInt8), (a.getD j []).length < i + fu → i ≤ (a.getD j []).length → acc.length ≤ 200 * i →
   nWrite_l2 n a l4 (j : Int) K fu acc last (i : Int) = nKa n l4 (j : Int) K ((stpF ((a.getD j []).drop i) (decide (i = 0)) last).map (acc ++ ·))
 | 0, i, acc, last, h, h1, h2 => by omega
 | fu + 1, i, acc, last, h, h1, h2 => by
  rw [nWrite_l2]
  simp only [Int.toNat_natCast]
  by_cases hi : i < (a.getD j []).length
  ·rw [ite_t (decide_eq_true (by omega)), gd_pos (by omega), gd_pos (by omega), nAttr_is hn (lgT_at ha hj hi), Option.bind_some, drop_at (z := ([], (0, []))) hi, stpF]
   generalize hx : (a.getD j []).getD i ([], (0, [])) = x
   cases ho : atOk x with
   | false => simp [nKa]
   | true =>
    have hal := atF_len ho
    simp only [if_pos, Bool.true_and]
    rw [ite_f (by rfl)]
    have go : nWrite_l2 n a l4 (j : Int) K fu (acc ++ atF x) (atF x) ((i : Int) + 1) = nKa n l4 (j : Int) K ((stpF ((a.getD j []).drop (i + 1)) false (atF x)).map ((acc ++ atF x) ++ ·)) := by
     have := nw_l2 hn ha hj hj8 l4 hl4 h4 K fu (i + 1) (acc ++ atF x) (atF x) (by omega) hi (by rw [List.length_append]; omega)
     rw [show decide (i + 1 = 0) = false from decide_eq_false (by omega)] at this
     exact this
    have e2 : ∀ o : Option (List UInt8), (o.map (atF x ++ ·)).map (acc ++ ·) = o.map ((acc ++ atF x) ++ ·) := fun o => by cases o <;> simp
    by_cases h0 : i = 0
    ·rw [ite_f (decide_eq_false (by omega)), gd_pos (by unfold rmB; omega), gd_pos (okI64 (by omega) (by omega)), go, decide_eq_true h0, Bool.true_or, if_pos rfl, e2]
    ·rw [ite_t (decide_eq_true (by omega)), cmp_less, decide_eq_false h0, Bool.false_or]
     cases Op.bytesLess last (atF x) with
     | false => simp [nKa]
     | true => rw [ite_f (by rfl), gd_pos (by unfold rmB; omega), gd_pos (okI64 (by omega) (by omega)), go, if_pos rfl, e2]
  ·rw [ite_f (decide_eq_false (by omega)), tHead_is n (by decide) (by omega) (by omega), Option.bind_some, ite_f (by rfl), List.drop_of_length_le (by omega)]
   have := hdF_len 49 (acc.length : Int)
   rw [gd_pos (by unfold rmB; simp only; omega), gd_pos (by unfold rmB; simp only [List.length_append]; omega), gd_pos (okI64 (by omega) (by omega))]
   simp [stpF, nKa, elF]
theorem rw_l2 {n : Nat} (hn : 3000 ≤ n) {a : nmT} (ha : lgT a) {j : Nat} (hj : j < a.length) (hj8 : a.length ≤ 8) (l4 : List UInt8) (hl4 : l4.length ≤ 100000) (h4 : (a.getD j []).length ≤ 4) (K : List UInt8 → Int → Option (List UInt8 × Bool)) :
  ∀ (fu i : Nat) (acc last : List UInt8), (a.getD j []).length < i + fu → i ≤ (a.getD j []).length → acc.length ≤ 200 * i →
   rWrite_l2 n a l4 (j : Int) K fu acc last (i : Int) = rKa l4 (j : Int) K ((stpF ((a.getD j []).drop i) (decide (i = 0)) last).map (acc ++ ·))
 | 0, i, acc, last, h, h1, h2 => by omega
 | fu + 1, i, acc, last, h, h1, h2 => by
  rw [rWrite_l2]
  simp only [Int.toNat_natCast]
  rw [gd_pos (by omega), gd_pos (by omega)]
  by_cases hi : i < (a.getD j []).length
  ·rw [ite_t (decide_eq_true (by omega)), gd_pos (by omega), gd_pos (by omega), gd_pos (by omega), gd_pos (by omega), rAttr_is hn (lgT_at ha hj hi), Option.bind_some, drop_at (z := ([], (0, []))) hi, stpF]
   generalize hx : (a.getD j []).getD i ([], (0, [])) = x
   cases ho : atOk x with
   | false => simp [rKa]
   | true =>
    have hal := atF_len ho
    simp only [if_pos, Bool.true_and]
    rw [ite_f (by rfl)]
    have go : rWrite_l2 n a l4 (j : Int) K fu (acc ++ atF x) (atF x) ((i : Int) + 1) = rKa l4 (j : Int) K ((stpF ((a.getD j []).drop (i + 1)) false (atF x)).map ((acc ++ atF x) ++ ·)) := by
     have := rw_l2 hn ha hj hj8 l4 hl4 h4 K fu (i + 1) (acc ++ atF x) (atF x) (by omega) hi (by rw [List.length_append]; omega)
     rw [show decide (i + 1 = 0) = false from decide_eq_false (by omega)] at this
     exact this
    have e2 : ∀ o : Option (List UInt8), (o.map (atF x ++ ·)).map (acc ++ ·) = o.map ((acc ++ atF x) ++ ·) := fun o => by cases o <;> simp
    by_cases h0 : i = 0
    ·rw [ite_f (decide_eq_false (by omega)), gd_pos (by unfold rmB; omega), gd_pos (okI64 (by omega) (by omega)), go, decide_eq_true h0, Bool.true_or, if_pos rfl, e2]
    ·rw [ite_t (decide_eq_true (by omega)), decide_eq_false h0, Bool.false_or]
     cases Op.bytesLess last (atF x) with
     | false => simp [rKa]
     | true => rw [ite_f (by rfl), gd_pos (by unfold rmB; omega), gd_pos (okI64 (by omega) (by omega)), go, if_pos rfl, e2]
  ·have := elF_len 49 acc
   rw [ite_f (decide_eq_false (by omega)), rEl_el n 49 (by omega), Option.bind_some, List.drop_of_length_le (by omega), gd_pos (by unfold rmB; omega), gd_pos (okI64 (by omega) (by omega))]
   simp [stpF, rKa]
def nm : nmT → Option (List UInt8)
 | [] => some []
 | s :: t => if 1 ≤ s.length ∧ s.length ≤ 4 then (match stpF s true [] with | none => none | some y => (nm t).map (elF 49 y ++ ·)) else none
def nmA (a : nmT) : Option (List UInt8) := if a.length ≤ 8 then (nm a).map (elF 48 ·) else none
theorem nw_l1 {n : Nat} (hn : 3000 ≤ n) {a : nmT} (ha : lgT a) (h8 : a.length ≤ 8) : ∀ (fu j : Nat) (acc : List UInt8), a.length < j + fu → j ≤ a.length → acc.length ≤ 804 * j →
   nWrite_l1 n a fu acc (j : Int) = some (match (nm (a.drop j)).map (acc ++ ·) with | none => ([], some 1) | some y => (elF 48 y, none))
 | 0, j, acc, h, h1, h2 => by omega
 | fu + 1, j, acc, h, h1, h2 => by
  rw [nWrite_l1]
  simp only [Int.toNat_natCast]
  by_cases hj : j < a.length
  ·rw [ite_t (decide_eq_true (by omega)), gd_pos (by omega), gd_pos (by omega), drop_at (z := []) hj, nm]
   by_cases c1 : (a.getD j []).length < 1
   ·rw [ite_t (decide_eq_true (by omega)), if_neg (by omega)]; rfl
   ·rw [ite_f (decide_eq_false (by omega))]
    by_cases c2 : 4 < (a.getD j []).length
    ·rw [ite_t (decide_eq_true (by omega)), if_neg (by omega)]; rfl
    ·rw [ite_f (decide_eq_false (by omega)), if_pos ⟨by omega, by omega⟩]
     have e := nw_l2 hn ha hj h8 acc (by omega) (by omega) (nWrite_l1 n a fu) n 0 [] [] (by omega) (by omega) (by simp)
     rw [show ((0 : Nat) : Int) = 0 from rfl] at e
     rw [e, List.drop_zero, show decide (0 = 0) = true from rfl]
     cases hs : stpF (a.getD j []) true [] with
     | none => simp [nKa]
     | some y =>
      have l1 := stpF_len _ _ _ _ hs
      have l2 := elF_len 49 y
      have := nw_l1 hn ha h8 fu (j + 1) (acc ++ elF 49 y) (by omega) hj (by rw [List.length_append]; omega)
      simp only [Option.map_some, nKa, List.nil_append]
      rw [show ((j : Int) + 1) = ((j + 1 : Nat) : Int) by omega, this]
      cases nm (a.drop (j + 1)) <;> simp
  ·have := hdF_len 48 (acc.length : Int)
   rw [ite_f (decide_eq_false (by omega)), tHead_is n (by decide) (by omega) (by omega), Option.bind_some, ite_f (by rfl), List.drop_of_length_le (by omega), gd_pos (by unfold rmB; simp only; omega)]
   simp [nm, elF]
theorem rw_l1 {n : Nat} (hn : 3000 ≤ n) {a : nmT} (ha : lgT a) (h8 : a.length ≤ 8) : ∀ (fu j : Nat) (acc : List UInt8), a.length < j + fu → j ≤ a.length → acc.length ≤ 804 * j →
   rWrite_l1 n a fu acc (j : Int) = some (match (nm (a.drop j)).map (acc ++ ·) with | none => ([], false) | some y => (elF 48 y, true))
 | 0, j, acc, h, h1, h2 => by omega
 | fu + 1, j, acc, h, h1, h2 => by
  rw [rWrite_l1]
  simp only [Int.toNat_natCast]
  by_cases hj : j < a.length
  ·rw [ite_t (decide_eq_true (by omega)), gd_pos (by omega), gd_pos (by omega), drop_at (z := []) hj, nm]
   by_cases c1 : (a.getD j []).length < 1
   ·rw [ite_t (decide_eq_true (by omega)), if_neg (by omega)]; rfl
   ·rw [ite_f (decide_eq_false (by omega)), gd_pos (by omega), gd_pos (by omega)]
    by_cases c2 : 4 < (a.getD j []).length
    ·rw [ite_t (decide_eq_true (by omega)), if_neg (by omega)]; rfl
    ·rw [ite_f (decide_eq_false (by omega)), if_pos ⟨by omega, by omega⟩]
     have e := rw_l2 hn ha hj h8 acc (by omega) (by omega) (rWrite_l1 n a fu) n 0 [] [] (by omega) (by omega) (by simp)
     rw [show ((0 : Nat) : Int) = 0 from rfl] at e
     rw [e, List.drop_zero, show decide (0 = 0) = true from rfl]
     cases hs : stpF (a.getD j []) true [] with
     | none => simp [rKa]
     | some y =>
      have l1 := stpF_len _ _ _ _ hs
      have l2 := elF_len 49 y
      have := rw_l1 hn ha h8 fu (j + 1) (acc ++ elF 49 y) (by omega) hj (by rw [List.length_append]; omega)
      simp only [Option.map_some, rKa, List.nil_append]
      rw [show ((j : Int) + 1) = ((j + 1 : Nat) : Int) by omega, this]
      cases nm (a.drop (j + 1)) <;> simp
  ·rw [ite_f (decide_eq_false (by omega)), rEl_el n 48 (by omega), Option.bind_some, List.drop_of_length_le (by omega)]
   simp [nm]
theorem nWrite_is {n : Nat} (hn : 3000 ≤ n) {a : nmT} (ha : lgT a) (hl : a.length ≤ 1000000) : nWrite n a = some (match nmA a with | none => ([], some 1) | some y => (y, none)) := by
 unfold nWrite nmA
 by_cases h8 : a.length ≤ 8
 ·rw [ite_f (decide_eq_false (by omega)), if_pos h8, show (0 : Int) = ((0 : Nat) : Int) from rfl, nw_l1 hn ha h8 n 0 [] (by omega) (by omega) (by simp), List.drop_zero]
  cases nm a <;> simp
 ·rw [ite_t (decide_eq_true (by omega)), if_neg h8]
theorem rWrite_is {n : Nat} (hn : 3000 ≤ n) {a : nmT} (ha : lgT a) (hl : a.length ≤ 1000000) : rWrite n a = some (match nmA a with | none => ([], false) | some y => (y, true)) := by
 unfold rWrite nmA
 by_cases h8 : a.length ≤ 8
 ·rw [ite_f (decide_eq_false (by omega)), if_pos h8, show (0 : Int) = ((0 : Nat) : Int) from rfl, rw_l1 hn ha h8 n 0 [] (by omega) (by omega) (by simp), List.drop_zero]
  cases nm a <;> simp
 ·rw [ite_t (decide_eq_true (by omega)), if_neg h8]
theorem lgN_T {a : nmT} (h : lgN a) : lgT a := fun s hs x hx => by have := (((h.2 s hs).2) x hx).1; omega
theorem lWrites_is (a : nmT) : lWrites 4100 a = some true := by
 unfold lWrites
 rw [lup_is, Option.bind_some, light_is (by decide), Option.bind_some]
 cases hb : lgNB a with
 | false => rfl
 | true =>
  have hg := lgNB_ok hb
  have hw := nWrite_is (n := 4100) (by decide) (lgN_T hg) (by have := hg.1; omega)
  have hr := rWrite_is (n := 4100) (by decide) (lgN_T hg) (by have := hg.1; omega)
  have hc : nCheck 4100 a = some (match nmA a with | none => ([], some 1) | some y => ((y, none) : List UInt8 × Option Int)).2 := by unfold nCheck; rw [hw]; rfl
  rw [ite_f (by rfl), hc, Option.bind_some, hw, Option.bind_some, hr, Option.bind_some]
  cases nmA a with
  | none => simp [gd_pos]
  | some y => simp
end Go.Sx
end
section
namespace Go.Sx
open Go Go.RowKit Go.Ch Go.Proofs.Ytobfglafchoipaa
end Go.Sx
namespace Go.Proofs.Ytobfglafchoipaa
open Go.RowKit Go.Ch Go.Sx
theorem nameWrites_c (w : World) (v0 : Value) (l0 : List (List (List UInt32 × (UInt8 × List UInt8)))) (q0 : Pl) (hq0 : v0 = .slice q0.A q0.n q0.cap) (ho0 : ∀ ρ, objR ρ w q0 ⟨.dp, 47, 1, l0.length, .d (.sl 46 (.pr (.wo 92) (.pr .u8 (.by 5)))) l0⟩) :
  Calls Try.prog 6 #[v0] w (Ret fun v' w' => Ext w w' ∧ v' = .bool true) := by
 exact law_of (lWrites_ok 4100 true) (args := [.c (.wh 0)]) (H := [⟨.dp, 47, 1, l0.length, .d (.sl 46 (.pr (.wo 92) (.pr .u8 (.by 5)))) l0⟩]) (ρ := plL [q0]) (vals := [v0]) rfl (allP_cons.2 ⟨(lWrites_is l0), allP_nil⟩) trivial (hpL (ps := [q0]) (F2.cons ho0 F2.nil)) (F2.cons hq0 F2.nil)
end Go.Proofs.Ytobfglafchoipaa
end
section
namespace Go.Sx
open Go Go.ChangeShapes Go.WideShapes Go.RowKit Go.Ch
def bInt (P : Program) (k : IntKind) (t : TypeId) : Bool := match P.underlying t with | some (.int k') => decide (k' = k) | _ => false
def bSlI (P : Program) (k : IntKind) (t : TypeId) : Bool := match P.underlying t with | some (.slice e) => bInt P k e && P.cellsOf e == 1 | _ => false
def bSl (P : Program) (sz : Nat) (f : TypeId → Bool) (t : TypeId) : Bool := match P.underlying t with | some (.slice e) => P.cellsOf e == sz && f e | _ => false
def bF1 (P : Program) (sz : Nat) (f : TypeId → Bool) (fs : List Field) (off : Nat) : Bool := match fs with | [g] => g.offset == off && P.cellsOf g.type == sz && f g.type | _ => false
def bPr (P : Program) (sa : Nat) (f : TypeId → Bool) (g : List Field → Nat → Bool) (fs : List Field) (off : Nat) : Bool := match fs with | h :: r => h.offset == off && P.cellsOf h.type == sa && f h.type && g r (off + sa) | _ => false
def bSt (P : Program) (sz : Nat) (f : List Field → Nat → Bool) (t : TypeId) : Bool := match P.underlying t with | some (.struct fs) => P.cellsOf t == sz && f fs.toList 0 | _ => false
structure Shb where
 t : TypeId → Bool
 f : List Field → Nat → Bool
def shB1 (P : Program) (sz : Nat) (f : TypeId → Bool) : Shb := ⟨f, bF1 P sz f⟩
def shB (P : Program) : Dsh → Shb
 | .u8 => shB1 P 1 (bInt P .u8)
 | .u32 => shB1 P 1 (bInt P .u32)
 | .i64 => shB1 P 1 (bInt P .i64)
 | .by _ => shB1 P 1 (bSlI P .u8)
 | .wo _ => shB1 P 1 (bSlI P .u32)
 | .sl _ x => shB1 P 1 (bSl P x.sz (shB P x).t)
 | .pr a b => ⟨bSt P (a.sz + b.sz) (bPr P a.sz (shB P a).t (shB P b).f), bPr P a.sz (shB P a).t (shB P b).f⟩
section
variable {H : Type} {enc : TypeId × Value → H} {P : Program} {W : World} {base : Nat} {held : Bool}
def OpE (enc : TypeId × Value → H) (P : Program) (W : World) (base : Nat) (held : Bool) (x : Dsh) (t : TypeId) : Prop := ∀ (fuel : Nat) (cs : List Value) (y : DataW H × List MemPlace), DataW.trod enc P W base (fun _ => true) held fuel t cs = some y → ∃ v, RdE W x cs v
theorem op_int {k : IntKind} {t : TypeId} (ht : P.underlying t = some (.int k)) {fuel : Nat} {cs : List Value} {y : DataW H × List MemPlace} (h : DataW.trod enc P W base (fun _ => true) held fuel t cs = some y) : ∃ n, cs = [.int k n] ∧ (Lit.int k n).wf = true := by
 obtain ⟨n, h1, _, h2⟩ := DataW.trod_int ht h
 exact ⟨n, h1, h2⟩
theorem op_u8 {t : TypeId} (ht : P.underlying t = some (.int .u8)) : OpE enc P W base held .u8 t := fun fuel cs y h => by
 obtain ⟨n, rfl, hw⟩ := op_int ht h
 refine ⟨UInt8.ofNat n.toNat, RdE.s1 (fun gv hg => ?_) rfl⟩
 show gv _ = bU _
 rw [hg]
 simp [Lit.wf, IntKind.min, IntKind.max, IntKind.signed, IntKind.bits] at hw
 unfold bU
 congr 1
 simp
 omega
theorem op_u32 {t : TypeId} (ht : P.underlying t = some (.int .u32)) : OpE enc P W base held .u32 t := fun fuel cs y h => by
 obtain ⟨n, rfl, hw⟩ := op_int ht h
 obtain ⟨x, hx⟩ := u32_of_int hw
 exact ⟨x, RdE.s1 (fun gv hg => by show gv _ = w32 _; rw [hg, hx]) rfl⟩
theorem op_i64 {t : TypeId} (ht : P.underlying t = some (.int .i64)) : OpE enc P W base held .i64 t := fun fuel cs y h => by
 obtain ⟨n, rfl, hw⟩ := op_int ht h
 exact ⟨n, RdE.s1 (fun gv hg => by show gv _ = _; rw [hg]) rfl⟩
theorem op_by {t e : TypeId} (e' : TypeId) (ht : P.underlying t = some (.slice e)) (he : P.underlying e = some (.int .u8)) (hc : P.cellsOf e = 1) : OpE enc P W base held (.by e') t := fun fuel cs y h => by
 rcases open_ints ht he hc h with ⟨rfl, _⟩ | ⟨x, l, c, zs, rfl, _, hl, hm, hz, _, hcell, hwz⟩
 ·exact ⟨[], RdE.by e' (sl_of_row (k := .u8) (w := W) (zs := []) (.inl ⟨rfl, rfl, rfl, rfl⟩)).1⟩
 ·obtain ⟨h1, h2⟩ := sl_of_row (k := .u8) (w := W) (zs := zs) (.inr ⟨_, rfl, hl, hm, by simpa using hz, hcell, hwz⟩)
  obtain ⟨l, hl⟩ := bytes_of_ints h2
  exact ⟨l, RdE.by e' (by rw [← hl]; exact h1)⟩
theorem op_wo {t e : TypeId} (e' : TypeId) (ht : P.underlying t = some (.slice e)) (he : P.underlying e = some (.int .u32)) (hc : P.cellsOf e = 1) : OpE enc P W base held (.wo e') t := fun fuel cs y h => by
 rcases open_ints ht he hc h with ⟨rfl, _⟩ | ⟨x, l, c, zs, rfl, _, hl, hm, hz, _, hcell, hwz⟩
 ·exact ⟨[], RdE.wo e' (sl_of_row (k := .u32) (w := W) (zs := []) (.inl ⟨rfl, rfl, rfl, rfl⟩)).1⟩
 ·obtain ⟨h1, h2⟩ := sl_of_row (k := .u32) (w := W) (zs := zs) (.inr ⟨_, rfl, hl, hm, by simpa using hz, hcell, hwz⟩)
  obtain ⟨l, hl, _⟩ := words_of_ints h2
  exact ⟨l, RdE.wo e' (by rw [← hl]; exact h1)⟩
def w2 (W : World) (a : Addr) (off n : Nat) (vs : List Value) : Prop := vs.length = n ∧ ∀ j u, vs[j]? = some u → W.cell? ((a.add off).add j) = some u
theorem w2_of {W : World} {base : Nat} {a : Addr} {off n : Nat} {vs : List Value} (h : W.cells? base (a.add off) n = some vs) : w2 W a off n vs := by
 obtain ⟨_, h1, h2⟩ := World.cells?_some h
 refine ⟨h1, fun j u hu => ?_⟩
 have hj : j < n := by rw [← h1]; exact (List.getElem?_eq_some_iff.1 hu).1
 rw [h2 j hj]; exact hu
theorem op_sl {t e : TypeId} {x : Dsh} (e' : TypeId) (ht : P.underlying t = some (.slice e)) (hc : P.cellsOf e = x.sz) (hx : OpE enc P W base held x e) : OpE enc P W base held (.sl e' x) t := fun fuel cs y h => by
 have hpos := x.sz_pos
 rcases DataW.trod_slice ht h with ⟨rfl, _⟩ | ⟨a, len, cap, elems, rest, n, rfl, rfl, _, hb, hl, hm, hlen, hel, _⟩
 ·refine ⟨([] : List x.T), RdE.sl0 e' (F := fun _ => False) (gv := fun _ => .slice none 0 0) rfl (fun g hg => hg.elim) ⟨none, 0, rfl, Nat.le_refl _, by simp [maxLen], fun _ => rfl, fun ad ha _ => (nomatch ha), fun k y hy => (nomatch hy)⟩⟩
 ·have each : ∀ i, i < len → ∃ vs : List Value, w2 W a (i * x.sz) x.sz vs ∧ ∃ v, RdE W x vs v := fun i hi => by
   have h1 := hel i hi
   rw [List.getElem?_eq_getElem (by omega), hc] at h1
   cases hcs : W.cells? base (a.add (i * x.sz)) x.sz with
   | none => rw [hcs] at h1; cases h1
   | some vs =>
    rw [hcs] at h1
    exact ⟨vs, w2_of hcs, hx n vs _ h1⟩
  have each' : ∀ i, ∃ p : List Value × x.T, i < len → w2 W a (i * x.sz) x.sz p.1 ∧ RdE W x p.1 p.2 := fun i => by
   by_cases hi : i < len
   ·obtain ⟨vs, h1, v, h2⟩ := each i hi
    exact ⟨(vs, v), fun _ => ⟨h1, h2⟩⟩
   ·exact ⟨([], x.df), fun h => absurd h hi⟩
  obtain ⟨pf, hpf⟩ := Classical.axiomOfChoice each'
  let l : List x.T := (List.range len).map fun i => (pf i).2
  have hll : l.length = len := by simp [l]
  let vs : List Value := (List.range (len * x.sz)).map fun j => (pf (j / x.sz)).1.getD (j % x.sz) undef
  have hvl : vs.length = len * x.sz := by simp [vs]
  have hvs : ∀ k g, k < len → g < x.sz → vs[k * x.sz + g]? = (pf k).1[g]? := fun k g hk hg => by
   have h1 : k * x.sz + g < len * x.sz := by
    have := Nat.mul_le_mul_right x.sz (show k + 1 ≤ len by omega)
    rw [Nat.add_mul, Nat.one_mul] at this; omega
   have e1 : (k * x.sz + g) / x.sz = k := by rw [Nat.add_comm, Nat.add_mul_div_right _ _ hpos, Nat.div_eq_of_lt hg, Nat.zero_add]
   have e2 : (k * x.sz + g) % x.sz = g := by rw [Nat.add_comm, Nat.add_mul_mod_self_right, Nat.mod_eq_of_lt hg]
   have hlen2 := ((hpf k hk).1).1
   show ((List.range (len * x.sz)).map fun j => (pf (j / x.sz)).1.getD (j % x.sz) undef)[k * x.sz + g]? = _
   rw [List.getElem?_map, List.getElem?_range h1]
   show some ((pf ((k * x.sz + g) / x.sz)).1.getD ((k * x.sz + g) % x.sz) undef) = _
   rw [e1, e2, List.getD_eq_getElem?_getD, List.getElem?_eq_getElem (by omega)]; rfl
  obtain ⟨F, gv, g1, g2, g3⟩ := DR.mk (w := W) (x := x) (l := l) (A := some a) (cap := cap) e' (by rw [hll]; exact hl) hm (fun h => nomatch h) vs (fun ad had j u hu => by
   injection had with had; subst had
   have hj : j < len * x.sz := by rw [← hvl]; exact (List.getElem?_eq_some_iff.1 hu).1
   have hk : j / x.sz < len := Nat.div_lt_of_lt_mul (by rw [Nat.mul_comm]; exact hj)
   have hg : j % x.sz < x.sz := Nat.mod_lt _ hpos
   have := hvs _ _ hk hg
   rw [Nat.div_add_mod'] at this
   rw [this] at hu
   have h3 := ((hpf _ hk).1).2 _ u hu
   rwa [add_add, Nat.div_add_mod'] at h3) (by rw [hvl, hll]) (fun k y hy => by
   have hk : k < len := by rw [← hll]; exact (List.getElem?_eq_some_iff.1 hy).1
   have hy' : y = (pf k).2 := by
    have : l[k]? = some y := hy
    simp only [l, List.getElem?_map, List.getElem?_range hk, Option.map_some, Option.some.injEq] at this
    exact this.symm
   subst hy'
   obtain ⟨F, gv, d1, d2, d3⟩ := (hpf k hk).2
   exact ⟨F, gv, fun g hg => by rw [d1 g hg, hvs k g hk hg], d2, d3⟩)
  exact ⟨l, RdE.sl0 e' (g1.trans (by rw [hll])) g2 g3⟩
theorem op_struct {t : TypeId} {fs : Array Field} {x : Dsh} (ht : P.underlying t = some (.struct fs)) (hx : ∀ (cs : List Value), cs.length = P.cellsOf t → (∀ f ∈ fs.toList, ∃ n y, DataW.trod enc P W base (fun _ => true) held n f.type ((cs.drop f.offset).take (P.cellsOf f.type)) = some y) → ∃ v, RdE W x cs v) : OpE enc P W base held x t := fun fuel cs y h => by
 obtain ⟨xs, n, _, _, hl, hxl, hel⟩ := DataW.trod_struct ht h
 refine hx cs hl fun f hf => ?_
 obtain ⟨i, hi⟩ := List.mem_iff_getElem?.1 hf
 have h1 := hel i f (by rw [← Array.getElem?_toList]; exact hi)
 have hlt : i < xs.length := by rw [hxl, ← Array.length_toList]; exact (List.getElem?_eq_some_iff.1 hi).1
 rw [List.getElem?_eq_getElem hlt] at h1
 exact ⟨n, _, h1⟩
def OpF (enc : TypeId × Value → H) (P : Program) (W : World) (base : Nat) (held : Bool) (x : Dsh) (fs : List Field) (off : Nat) : Prop := ∀ (cs : List Value), off + x.sz ≤ cs.length → (∀ f ∈ fs, ∃ n y, DataW.trod enc P W base (fun _ => true) held n f.type ((cs.drop f.offset).take (P.cellsOf f.type)) = some y) → ∃ v, RdE W x ((cs.drop off).take x.sz) v
theorem op_f1 {x : Dsh} {f : Field} {off : Nat} (h1 : f.offset = off) (h2 : P.cellsOf f.type = x.sz) (hx : OpE enc P W base held x f.type) : OpF enc P W base held x [f] off := fun cs _ hf => by
 obtain ⟨n, y, h⟩ := hf f (by simp)
 rw [h1, h2] at h
 exact hx n _ y h
theorem op_f2 {a b : Dsh} {f : Field} {fs : List Field} {off : Nat} (h1 : f.offset = off) (h2 : P.cellsOf f.type = a.sz) (ha : OpE enc P W base held a f.type) (hb : OpF enc P W base held b fs (off + a.sz)) : OpF enc P W base held (.pr a b) (f :: fs) off := fun cs hl hf => by
 have hl' : off + (a.sz + b.sz) ≤ cs.length := hl
 obtain ⟨v, hv⟩ := op_f1 h1 h2 ha cs (by omega) (fun g hg => hf g (by simp at hg; simp [hg]))
 obtain ⟨u, hu⟩ := hb cs (by omega) (fun g hg => hf g (by simp [hg]))
 refine ⟨(v, u), RdE.pr ?_ ?_⟩
 ·rw [List.take_take]
  have : min a.sz (Dsh.pr a b).sz = a.sz := by show min a.sz (a.sz + b.sz) = _; omega
  rw [this]; exact hv
 ·rw [List.drop_take, List.drop_drop]
  have : (Dsh.pr a b).sz - a.sz = b.sz := by show a.sz + b.sz - a.sz = _; omega
  rw [this]; exact hu
structure OpOk (enc : TypeId × Value → H) (P : Program) (W : World) (base : Nat) (held : Bool) (x : Dsh) (s : Shb) : Prop where
 t : ∀ t, s.t t = true → OpE enc P W base held x t
 f : ∀ fs off, s.f fs off = true → OpF enc P W base held x fs off
theorem bInt_ok {k : IntKind} {t : TypeId} (h : bInt P k t = true) : P.underlying t = some (.int k) := by
 unfold bInt at h
 split at h
 ·rename_i k' hk; rw [hk, of_decide_eq_true h]
 ·cases h
theorem bSlI_ok {k : IntKind} {t : TypeId} (h : bSlI P k t = true) : ∃ e, P.underlying t = some (.slice e) ∧ P.underlying e = some (.int k) ∧ P.cellsOf e = 1 := by
 unfold bSlI at h
 split at h
 ·rename_i e he
  simp only [Bool.and_eq_true, beq_iff_eq] at h
  exact ⟨e, he, bInt_ok h.1, h.2⟩
 ·cases h
theorem op1 {x : Dsh} {f : TypeId → Bool} (hx : x.sz = 1) (h : ∀ t, f t = true → OpE enc P W base held x t) : OpOk enc P W base held x (shB1 P 1 f) := by
 refine ⟨h, fun fs off hf => ?_⟩
 have hf' : bF1 P 1 f fs off = true := hf
 unfold bF1 at hf'
 split at hf'
 ·simp only [Bool.and_eq_true, beq_iff_eq] at hf'
  exact op_f1 hf'.1.1 (hf'.1.2.trans hx.symm) (h _ hf'.2)
 ·cases hf'
theorem opPr {a b : Dsh} {s s' : Shb} (ha : OpOk enc P W base held a s) (hb : OpOk enc P W base held b s') (fs : List Field) (off : Nat) (h : bPr P a.sz s.t s'.f fs off = true) : OpF enc P W base held (.pr a b) fs off := by
 unfold bPr at h
 split at h
 ·simp only [Bool.and_eq_true, beq_iff_eq] at h
  exact op_f2 h.1.1.1 h.1.1.2 (ha.t _ h.1.2) (hb.f _ _ h.2)
 ·cases h
theorem opP2 {a b : Dsh} {s s' : Shb} (ha : OpOk enc P W base held a s) (hb : OpOk enc P W base held b s') : OpOk enc P W base held (.pr a b) ⟨bSt P (a.sz + b.sz) (bPr P a.sz s.t s'.f), bPr P a.sz s.t s'.f⟩ := by
 refine ⟨fun t h => ?_, fun fs off h => opPr ha hb fs off h⟩
 have h' : bSt P (a.sz + b.sz) (bPr P a.sz s.t s'.f) t = true := h
 unfold bSt at h'
 split at h'
 ·rename_i fs ht
  simp only [Bool.and_eq_true, beq_iff_eq] at h'
  refine op_struct ht fun cs hl hf => ?_
  have := opPr ha hb _ 0 h'.2 cs (by show 0 + (a.sz + b.sz) ≤ _; omega) hf
  rw [List.drop_zero, List.take_of_length_le (by rw [hl, h'.1]; exact Nat.le_refl _)] at this
  exact this
 ·cases h'
theorem op_of : ∀ (x : Dsh), OpOk enc P W base held x (shB P x)
 | .u8 => op1 rfl fun _ h => op_u8 (bInt_ok h)
 | .u32 => op1 rfl fun _ h => op_u32 (bInt_ok h)
 | .i64 => op1 rfl fun _ h => op_i64 (bInt_ok h)
 | .by e => op1 rfl fun _ h => by obtain ⟨_, h1, h2, h3⟩ := bSlI_ok h; exact op_by e h1 h2 h3
 | .wo e => op1 rfl fun _ h => by obtain ⟨_, h1, h2, h3⟩ := bSlI_ok h; exact op_wo e h1 h2 h3
 | .sl e x => op1 rfl fun _ h => by
  unfold bSl at h
  split at h
  ·rename_i ht
   simp only [Bool.and_eq_true, beq_iff_eq] at h
   exact op_sl e ht h.1 ((op_of x).t _ h.2)
  ·cases h
 | .pr a b => opP2 (op_of a) (op_of b)
theorem open_deep {x : Dsh} {e t : TypeId} {v : Value} {d : DataW H} {p : List MemPlace} (hb : (shB P (.sl e x)).t t = true) (hv : v.cells = #[v]) (h : DataW.Trod enc P W base (fun _ => true) held t v d p) :
  ∃ (l : List x.T) (q : Pl), v = .slice q.A q.n q.cap ∧ ∀ ρ, objR ρ W q ⟨.dp, e, x.sz, l.length, .d x l⟩ := by
 obtain ⟨m, hm⟩ := h
 rw [hv] at hm
 obtain ⟨l, hl⟩ := (op_of (enc := enc) (P := P) (W := W) (base := base) (held := held) (.sl e x)).t t hb m _ _ hm
 obtain ⟨q, h1, h2⟩ := hl.root e
 exact ⟨l, q, h1, h2⟩
end
end Go.Sx
end
