import Derived.Test.YtliilihbnhdemaaZ4
set_option linter.unusedVariables false
set_option linter.unusedSimpArgs false
section
namespace Go.Sx
open Go Go.RowKit Go.Ch Go.Proofs.Ytliilihbnhdemaa
theorem wpos {l : List UInt32} (h : l.length ≠ 0) : nV l = nV (l.take (l.length - 1)) + 4294967296 ^ (l.length - 1) * (l.getD (l.length - 1) 0).toNat := by
 have h1 := V_take l (l.length - 1) (by omega)
 rwa [show l.length - 1 + 1 = l.length by omega, List.take_length] at h1
theorem lastD {l : List UInt32} (h : l ≠ []) : l.getLast h = l.getD (l.length - 1) 0 := by
 have : l.length - 1 < l.length := by have := List.length_pos_iff.2 h; omega
 rw [List.getLast_eq_getElem, List.getD_eq_getElem?_getD, List.getElem?_eq_getElem this]; rfl
theorem ptrim_l1_is (n : Nat) : ∀ (fu : Nat) (w : List UInt32), w.length < fu → w.length ≤ 1000000 → ptrim_l1 n fu w w.length = some (nD (nV w), (nD (nV w)).length) := by
 intro fu
 induction fu with
 | zero => intro w h; omega
 | succ fu ih =>
  intro w hf hw
  by_cases h0 : w.length = 0
  ·obtain rfl := List.eq_nil_of_length_eq_zero h0
   rw [ptrim_l1, ite_f (by simp), V_nil, D_zero]; try rfl
  ·have e : (((w.length : Nat) : Int) - 1).toNat = w.length - 1 := by omega
   rw [ptrim_l1, ite_t (by simp; omega), gd_pos (okI64 (by omega) (by omega)), gd_pos (by omega), gd_pos (by omega), e]
   by_cases hz : w.getD (w.length - 1) 0 = 0
   ·have hl : ((w.drop 0).take (w.length - 1)).length = w.length - 1 := by simp
    have hV := wpos h0
    rw [hz] at hV
    rw [ite_t (by rw [hz]; rfl), gd_pos (okI64 (by omega) (by omega)), gd_pos (by omega), gd_pos (by omega)]
    have := ih ((w.drop 0).take (w.length - 1)) (by omega) (by omega)
    rw [hl] at this
    rw [this, List.drop_zero, hV]; rfl
   ·rw [ite_f (by simp only [beq_eq_false_iff_ne]; exact hz)]
    rw [D_V (fun hn => by rw [lastD hn]; exact hz)]
theorem ptrim_is {n : Nat} (hn : 18446744073709551616 ≤ n) {a : List UInt32} (ha : a.length ≤ 1000000) : ptrim n a = some (nD (nV a), (nD (nV a)).length) := ptrim_l1_is n n a (by omega) ha
theorem V_take' (l : List UInt32) (i : Nat) : nV (l.take (i + 1)) = nV (l.take i) + 4294967296 ^ i * (l.getD i 0).toNat := by
 by_cases h : i < l.length
 ·exact V_take l i h
 ·rw [List.take_of_length_le (by omega), List.take_of_length_le (by omega), List.getD_eq_getElem?_getD, List.getElem?_eq_none (by omega)]; simp
theorem getD_set_ne {α : Type} {z : α} (l : List α) {i k : Nat} (x : α) (h : i ≠ k) : (l.set i x).getD k z = l.getD k z := by
 rw [List.getD_eq_getElem?_getD, List.getD_eq_getElem?_getD, List.getElem?_set_ne h]
theorem shr32_is (x : UInt32) (k : Nat) (h : k < 32) : (shr32 x (k : Int)).toNat = x.toNat / 2 ^ k := by
 unfold shr32
 rw [if_pos (by omega), Int.toNat_natCast, UInt32.toNat_shiftRight]
 have : (UInt32.ofNat k).toNat % 32 = k := by simp; omega
 rw [this, Nat.shiftRight_eq_div_pow]
theorem ofInt32 (t : Int) : (UInt32.ofInt t).toNat = (t % 4294967296).toNat := by
 simp [UInt32.ofInt]; omega
theorem zpos {l : List Int} (h : l.length ≠ 0) : nZ l = nZ (l.take (l.length - 1)) + 65536 ^ (l.length - 1) * (l.getD (l.length - 1) 0).toNat := by
 have h1 := Z_take l (l.length - 1) (by omega)
 rwa [show l.length - 1 + 1 = l.length by omega, List.take_length] at h1
theorem lastZ {l : List Int} (h : l ≠ []) : l.getLast h = l.getD (l.length - 1) 0 := by
 have : l.length - 1 < l.length := by have := List.length_pos_iff.2 h; omega
 rw [List.getLast_eq_getElem, List.getD_eq_getElem?_getD, List.getElem?_eq_getElem this]; rfl
theorem Dz.get {l : List Int} (h : Dz l) (i : Nat) : 0 ≤ l.getD i 0 ∧ l.getD i 0 < 65536 := by
 by_cases hi : i < l.length
 ·rw [List.getD_eq_getElem?_getD, List.getElem?_eq_getElem hi]; exact h _ (List.getElem_mem hi)
 ·rw [List.getD_eq_getElem?_getD, List.getElem?_eq_none (by omega)]; decide
theorem Dz.take {l : List Int} (h : Dz l) (i : Nat) : Dz (l.take i) := fun x hx => h x (List.mem_of_mem_take hx)
theorem Dz.app {l m : List Int} (h : Dz l) (h2 : Dz m) : Dz (l ++ m) := fun x hx => (List.mem_append.1 hx).elim (h x) (h2 x)
theorem Dz.one {x : Int} (h : 0 ≤ x ∧ x < 65536) : Dz [x] := fun y hy => by rw [List.mem_singleton.1 hy]; exact h
theorem Dz.nil : Dz [] := fun x hx => by cases hx
theorem Dz.set {l : List Int} (h : Dz l) {x : Int} (hx : 0 ≤ x ∧ x < 65536) (i : Nat) : Dz (l.set i x) := fun y hy => (List.mem_or_eq_of_mem_set hy).elim (h y) fun e => by rw [e]; exact hx
theorem rtrim_l1_is (n : Nat) (a : List Int) (hd : Dz a) (ha : a.length ≤ 1000000) : ∀ (k fu : Nat), k < fu → k ≤ a.length → nZ (a.take k) = nZ a →
  ∃ m, rtrim_l1 n a fu (k : Int) = some (a, m) ∧ a.take m = nE (nZ a) ∧ m = (nE (nZ a)).length := by
 intro k
 have fin : ∀ k, k ≤ a.length → a.take k = nE (nZ a) → k = (nE (nZ a)).length := fun k h1 h2 => by rw [← h2, List.length_take]; omega
 induction k with
 | zero =>
  intro fu hf hk he
  cases fu with
  | zero => omega
  | succ fu =>
   have h0 : nZ a = 0 := by rw [← he]; rfl
   have h1 : a.take 0 = nE (nZ a) := by rw [h0, E_zero]; rfl
   exact ⟨0, by rw [rtrim_l1, ite_f (by simp), gd_pos (by omega), gd_pos (by omega)]; rfl, h1, fin 0 hk h1⟩
 | succ k ih =>
  intro fu hf hk he
  cases fu with
  | zero => omega
  | succ fu =>
   have e : (((k + 1 : Nat) : Int) - 1) = (k : Int) := by omega
   rw [rtrim_l1, ite_t (by simp <;> omega), e, gd_pos (okI64 (by omega) (by omega)), gd_pos (by omega), gd_pos (by omega), Int.toNat_natCast]
   have h1 := Z_take a k (by omega)
   by_cases hz : a.getD k 0 = 0
   ·rw [ite_t (by rw [hz]; rfl), gd_pos (okI64 (by omega) (by omega))]
    rw [hz] at h1
    exact ih fu (by omega) (by omega) (by rw [← he, h1]; rfl)
   ·rw [ite_f (by simp only [beq_eq_false_iff_ne]; exact hz), gd_pos (by omega), gd_pos (by omega)]
    have hl : (a.take (k + 1)).length = k + 1 := by rw [List.length_take]; omega
    have h2 : a.take (k + 1) = nE (nZ a) := by
     rw [← he]
     refine (E_Z (hd.take _) fun hn => ?_).symm
     rw [lastZ hn, hl, Nat.add_sub_cancel, List.getD_eq_getElem?_getD, List.getElem?_take_of_lt (by omega), ← List.getD_eq_getElem?_getD]
     exact hz
    exact ⟨k + 1, by rw [show (((k + 1 : Nat) : Int)).toNat = k + 1 by omega], h2, fin _ hk h2⟩
theorem rtrim_is {n : Nat} (hn : 18446744073709551616 ≤ n) {a : List Int} (hd : Dz a) (ha : a.length ≤ 1000000) : rtrim n a = some (a, (nE (nZ a)).length) ∧ (a.drop 0).take (nE (nZ a)).length = nE (nZ a) := by
 obtain ⟨m, h1, h2, h3⟩ := rtrim_l1_is n a hd ha a.length n (by omega) (Nat.le_refl _) (by rw [List.take_length])
 subst h3
 exact ⟨h1, h2⟩
theorem rOf_l1_is {n : Nat} (hn : 18446744073709551616 ≤ n) (a : List UInt32) (ha : a.length ≤ 100000) : ∀ (m i fu : Nat) (z : List Int), i + m = a.length → m < fu → z.length = 2 * i → Dz z → nZ z = nV (a.take i) →
  rOf_l1 n a fu z (i : Int) = some (nE (nV a), (nE (nV a)).length) := by
 intro m
 induction m with
 | zero =>
  intro i fu z hi hf hz hd he
  cases fu with
  | zero => omega
  | succ fu =>
   rw [List.take_of_length_le (by omega)] at he
   obtain ⟨h1, h2⟩ := rtrim_is hn hd (by omega)
   rw [rOf_l1, ite_f (by simp <;> omega), h1]
   simp only [Option.bind_some]
   rw [h2, he]
 | succ m ih =>
  intro i fu z hi hf hz hd he
  cases fu with
  | zero => omega
  | succ fu =>
   rw [rOf_l1, ite_t (by simp <;> omega), gd_pos (by omega), gd_pos (by omega), gd_pos (by decide), gd_pos (by omega), gd_pos (by omega), gd_pos (by decide), gd_pos (by unfold rmB; omega), gd_pos (okI64 (by omega) (by omega)), Int.toNat_natCast]
   have hX := u32_lt (a.getD i 0)
   have e1 : (a.getD i 0 % 65536).toNat = (a.getD i 0).toNat % 65536 := UInt32.toNat_mod _ _
   have e2 : (a.getD i 0 / 65536).toNat = (a.getD i 0).toNat / 65536 := UInt32.toNat_div _ _
   rw [e1, e2]
   refine ih (i + 1) fu _ (by omega) (by omega) (by simp <;> omega) (hd.app (by
    intro x hx
    rcases List.mem_cons.1 hx with rfl | hx
    ·omega
    ·rw [List.mem_singleton.1 hx]; omega)) ?_
   rw [Z_app, he, V_take', hz, Z_cons, Z_cons, Z_nil, Int.toNat_natCast, Int.toNat_natCast, Nat.pow_mul]
   have hdm := Nat.mod_add_div (a.getD i 0).toNat 65536
   show _ + 4294967296 ^ i * _ = _
   generalize (a.getD i 0).toNat % 65536 = x at *
   generalize (a.getD i 0).toNat / 65536 = y at *
   rw [← hdm]; rfl
theorem rOf_is {n : Nat} (hn : 18446744073709551616 ≤ n) {a : List UInt32} (ha : a.length ≤ 100000) : rOf n a = some (nE (nV a), (nE (nV a)).length) :=
 rOf_l1_is hn a ha a.length 0 n [] (by omega) (by omega) rfl Dz.nil rfl
theorem rTo_l1_is {n : Nat} (hn : 18446744073709551616 ≤ n) (v : Nat) (ha : (nE v).length ≤ 100000) : ∀ (m i fu : Nat) (w : List UInt32), (nE v).length ≤ 2 * i + m → m < fu → 2 * i ≤ (nE v).length + 1 → w.length = i → nV w = nZ ((nE v).take (2 * i)) → (∀ h : w ≠ [], w.getLast h ≠ 0 ∨ 2 * i < (nE v).length) →
  rTo_l1 n (nE v) fu w (2 * (i : Int)) = some (nD v) := by
 have hE := E_dz v
 intro m
 induction m using Nat.strongRecOn with
 | _ m ih =>
  intro i fu w hi hf h2 hw he hlast
  cases fu with
  | zero => omega
  | succ fu =>
   by_cases hlt : 2 * i < (nE v).length
   ·have g1 := hE.get (2 * i)
    have g2 := hE.get (2 * i + 1)
    have e0 : (2 * (i : Int)).toNat = 2 * i := by omega
    have e1 : (2 * (i : Int) + 1).toNat = 2 * i + 1 := by omega
    have k1 := Z_take (nE v) (2 * i) hlt
    rw [rTo_l1, ite_t (by simp <;> omega), gd_pos (by omega), gd_pos (by omega), gd_pos (okI64 (by omega) (by omega)), e0, e1]
    by_cases hlt2 : 2 * i + 1 < (nE v).length
    ·have k2 := Z_take (nE v) (2 * i + 1) hlt2
     rw [ite_t (by simp <;> omega), gd_pos (okI64 (by omega) (by omega)), gd_pos (by omega), gd_pos (by omega)]
     unfold rTo_j1
     rw [gd_pos (by unfold rmB; omega), gd_pos (okI64 (by omega) (by omega)), show 2 * (i : Int) + 2 = 2 * ((i + 1 : Nat) : Int) by omega]
     have ex : (UInt32.ofInt ((nE v).getD (2 * i) 0) + UInt32.ofInt ((nE v).getD (2 * i + 1) 0) * 65536).toNat = ((nE v).getD (2 * i) 0).toNat + 65536 * ((nE v).getD (2 * i + 1) 0).toNat := by
      rw [UInt32.toNat_add, UInt32.toNat_mul, ofInt32, ofInt32]
      show (_ + _ * 65536 % _) % _ = _
      omega
     refine ih (m - 1) (by omega) (i + 1) fu _ (by omega) (by omega) (by omega) (by simp <;> omega) ?_ ?_
     ·rw [V_app, V_cons, V_nil, ex, he, show 2 * (i + 1) = 2 * i + 1 + 1 by omega, k2, k1, hw, Nat.pow_succ, Nat.pow_mul]
      show _ + 4294967296 ^ i * _ = _ + 4294967296 ^ i * _ + 4294967296 ^ i * 65536 * _
      generalize 4294967296 ^ i = p
      grind
     ·intro _
      by_cases h3 : 2 * (i + 1) < (nE v).length
      ·exact .inr h3
      ·left
       rw [List.getLast_concat]
       intro h0
       have h0 := ex.symm.trans (congrArg UInt32.toNat h0)
       have hv0 : nE v ≠ [] := by intro h; rw [h] at hlt; simp at hlt
       have hv1 : v ≠ 0 := by rintro rfl; exact hv0 E_zero
       have h5 : (nE v).getD (2 * i + 1) 0 = 0 := by
        rw [UInt32.toNat_zero] at h0; omega
       have h6 := zpos (l := nE v) (by omega)
       rw [Z_E, show (nE v).length - 1 = 2 * i + 1 by omega, h5] at h6
       have h7 := Z_lt (hE.take (2 * i + 1))
       rw [List.length_take, Nat.min_eq_left (by omega)] at h7
       have := (E_len v (2 * i + 1)).2 (by simp at h6; omega)
       omega
    ·rw [ite_f (by simp <;> omega)]
     unfold rTo_j1
     rw [gd_pos (by unfold rmB; omega), gd_pos (okI64 (by omega) (by omega)), show 2 * (i : Int) + 2 = 2 * ((i + 1 : Nat) : Int) by omega]
     have ex : (UInt32.ofInt ((nE v).getD (2 * i) 0)).toNat = ((nE v).getD (2 * i) 0).toNat := by
      rw [ofInt32]; omega
     refine ih (m - 1) (by omega) (i + 1) fu _ (by omega) (by omega) (by omega) (by simp <;> omega) ?_ ?_
     ·rw [V_app, V_cons, V_nil, ex, he, List.take_of_length_le (l := nE v) (i := 2 * (i + 1)) (by omega), hw]
      rw [List.take_of_length_le (l := nE v) (i := 2 * i + 1) (by omega), Nat.pow_mul] at k1
      rw [k1]
      show _ + 4294967296 ^ i * _ = _ + 4294967296 ^ i * _
      simp
     ·intro _
      left
      rw [List.getLast_concat]
      intro h0
      have h0 := ex.symm.trans (congrArg UInt32.toNat h0)
      have h5 : (nE v).getD (2 * i) 0 = 0 := by
       rw [UInt32.toNat_zero] at h0; omega
      have h6 := zpos (l := nE v) (by omega)
      rw [Z_E, show (nE v).length - 1 = 2 * i by omega, h5] at h6
      have h7 := Z_lt (hE.take (2 * i))
      rw [List.length_take, Nat.min_eq_left (by omega)] at h7
      have := (E_len v (2 * i)).2 (by simp at h6; omega)
      omega
   ·rw [rTo_l1, ite_f (by simp <;> omega)]
    rw [List.take_of_length_le (by omega), Z_E] at he
    rw [← he, D_V (fun h => (hlast h).elim id (fun h' => absurd h' hlt))]
theorem rTo_is {n : Nat} (hn : 18446744073709551616 ≤ n) {v : Nat} (ha : (nE v).length ≤ 100000) : rTo n (nE v) = some (nD v) :=
 rTo_l1_is hn v ha (nE v).length 0 n [] (by omega) (by omega) (by omega) rfl rfl (fun h => absurd rfl h)
theorem same_l1 (f : Nat → Int → Option Bool) (a b : List UInt32) (hl : b.length = a.length) (ha : a.length ≤ 1000000)
  (hf : ∀ fu i, f (fu + 1) i = bif (decide (i < ((a.length : Nat) : Int))) then gd (0 ≤ i) (gd (i < ((a.length : Nat) : Int)) (gd (0 ≤ i) (gd (i < ((b.length : Nat) : Int)) (bif ((a.getD i.toNat 0) != (b.getD i.toNat 0)) then some false else gd (okI .i64 (i + 1)) (f fu (i + 1)))))) else some true) :
  ∀ (m i fu : Nat), i + m = a.length → m < fu → a.take i = b.take i → f fu (i : Int) = some (decide (a = b)) := by
 intro m
 induction m with
 | zero =>
  intro i fu hi hfu he
  cases fu with
  | zero => omega
  | succ fu =>
   rw [List.take_of_length_le (by omega), List.take_of_length_le (by omega)] at he
   rw [hf, ite_f (by simp <;> omega)]; simp [he]
 | succ m ih =>
  intro i fu hi hfu he
  cases fu with
  | zero => omega
  | succ fu =>
   rw [hf, ite_t (by simp <;> omega), gd_pos (by omega), gd_pos (by omega), gd_pos (by omega), gd_pos (by omega), Int.toNat_natCast]
   by_cases h : a.getD i 0 = b.getD i 0
   ·rw [ite_f (by rw [h]; simp), gd_pos (okI64 (by omega) (by omega))]
    refine ih (i + 1) fu (by omega) (by omega) ?_
    rw [List.take_succ_eq_append_getElem (by omega), List.take_succ_eq_append_getElem (by omega), he]
    rw [List.getD_eq_getElem?_getD, List.getD_eq_getElem?_getD, List.getElem?_eq_getElem (by omega), List.getElem?_eq_getElem (by omega)] at h
    simp only [Option.getD_some] at h
    rw [h]
   ·rw [ite_t (by simp only [bne_iff_ne]; exact h)]
    have : a ≠ b := fun e => h (by rw [e])
    simp [this]
theorem rSame_is {n : Nat} (hn : 18446744073709551616 ≤ n) {a : List UInt32} {v : Nat} (ha : a.length ≤ 1000000) (hv : (nE v).length ≤ 100000) : rSame n a (nE v) = some (decide (a = nD v)) := by
 unfold rSame
 rw [rTo_is hn hv]
 simp only [Option.bind_some]
 by_cases h : a.length = (nD v).length
 ·rw [ite_f (by rw [h]; simp)]
  exact same_l1 (rSame_l1 n a (nD v)) a (nD v) h.symm ha (fun _ _ => rfl) a.length 0 n (by omega) (by omega) rfl
 ·have : a ≠ nD v := fun e => h (by rw [e])
  rw [ite_t (by simp only [bne_iff_ne]; omega)]; simp [this]
def spare (a : List UInt8) : Bool := ((a.getD 0 0).toNat == 0 && decide ((a.getD 1 0).toNat < 128)) || ((a.getD 0 0).toNat == 255 && decide (128 ≤ (a.getD 1 0).toNat))
theorem u8eq (x : UInt8) (k : Nat) (hk : k < 256) : (x == UInt8.ofNat k) = (x.toNat == k) := by
 rw [Bool.eq_iff_iff]
 simp only [beq_iff_eq, ← UInt8.toNat_inj]
 have : (UInt8.ofNat k).toNat = k := by simp; omega
 rw [this]
theorem pspare_is (n : Nat) {a : List UInt8} (h : 2 ≤ a.length) : pspare n a = some (spare a) := by
 unfold pspare spare
 have e0 : ((a.getD 0 0) == 0) = ((a.getD 0 0).toNat == 0) := u8eq _ 0 (by decide)
 have e1 : ((a.getD 0 0) == 255) = ((a.getD 0 0).toNat == 255) := u8eq _ 255 (by decide)
 have e2 : (decide ((a.getD 1 0) < (128 : UInt8))) = decide ((a.getD 1 0).toNat < 128) := by rw [Bool.eq_iff_iff]; simp only [decide_eq_true_eq]; exact UInt8.lt_iff_toNat_lt
 have e3 : (decide ((128 : UInt8) ≤ (a.getD 1 0))) = decide (128 ≤ (a.getD 1 0).toNat) := by rw [Bool.eq_iff_iff]; simp only [decide_eq_true_eq]; exact UInt8.le_iff_toNat_le
 rw [e0, e1, e2, e3]
 simp only [gd_pos (show (0 : Int) ≤ 0 by omega), gd_pos (show (0 : Int) < ((a.length : Nat) : Int) by omega), gd_pos (show (0 : Int) ≤ 1 by omega), gd_pos (show (1 : Int) < ((a.length : Nat) : Int) by omega)]
 cases h1 : ((a.getD 0 0).toNat == 0) <;> cases h2 : ((a.getD 0 0).toNat == 255) <;> cases h3 : decide ((a.getD 1 0).toNat < 128) <;> simp_all
def nB (l : List UInt8) : Nat := vl 256 UInt8.toNat l.reverse
def dB (v : Nat) : List UInt8 := (dg 256 UInt8.ofNat v).reverse
theorem b_lt (x : UInt8) : x.toNat < 256 := x.toNat_lt
theorem b_of (x : Nat) (h : x < 256) : (UInt8.ofNat x).toNat = x := by simp; omega
theorem nB_dB (v : Nat) : nB (dB v) = v := by unfold nB dB; rw [List.reverse_reverse]; exact vl_dg _ _ _ (by decide) b_of v
theorem dB_len (v k : Nat) : (dB v).length ≤ k ↔ v < 256 ^ k := by unfold dB; rw [List.length_reverse]; exact dg_len _ _ (by decide) v k
theorem nB_lt (l : List UInt8) : nB l < 256 ^ l.length := by
 have := vl_lt 256 UInt8.toNat l.reverse fun x _ => b_lt x
 rwa [List.length_reverse] at this
theorem nB_nil : nB [] = 0 := rfl
theorem nB_cons (x : UInt8) (l : List UInt8) : nB (x :: l) = nB l + 256 ^ l.length * x.toNat := by
 unfold nB
 rw [List.reverse_cons, vl_app, List.length_reverse, vl_cons, vl_nil]; simp
theorem nB_inj : ∀ {a b : List UInt8}, a.length = b.length → nB a = nB b → a = b
 | [], [], _, _ => rfl
 | x :: a, y :: b, hl, h => by
  have hl' : a.length = b.length := by simpa using hl
  rw [nB_cons, nB_cons, hl'] at h
  have h1 := nB_lt a
  have h2 := nB_lt b
  rw [hl'] at h1
  have hp : 0 < 256 ^ b.length := Nat.pow_pos (by decide)
  have e1 : (nB a + 256 ^ b.length * x.toNat) % 256 ^ b.length = nB a := by rw [Nat.add_mul_mod_self_left, Nat.mod_eq_of_lt h1]
  have e2 : (nB b + 256 ^ b.length * y.toNat) % 256 ^ b.length = nB b := by rw [Nat.add_mul_mod_self_left, Nat.mod_eq_of_lt h2]
  have e3 : nB a = nB b := by rw [← e1, h, e2]
  have e4 : x.toNat = y.toNat := by
   rw [e3] at h
   exact Nat.eq_of_mul_eq_mul_left hp (by omega)
  rw [nB_inj hl' e3, UInt8.toNat_inj.1 e4]
 | [], _ :: _, hl, _ => by simp at hl
 | _ :: _, [], hl, _ => by simp at hl
theorem nB_set : ∀ (l : List UInt8) (i : Nat) (x : UInt8), i < l.length → nB (l.set (l.length - 1 - i) x) + 256 ^ i * (l.getD (l.length - 1 - i) 0).toNat = nB l + 256 ^ i * x.toNat
 | [], _, _, h => by simp at h
 | y :: t, i, x, h => by
  by_cases hi : i = t.length
  ·subst hi
   have e : (y :: t).length - 1 - t.length = 0 := by simp
   rw [e, List.set_cons_zero, nB_cons, nB_cons]; simp; omega
  ·have hi' : i < t.length := by simp at h; omega
   have e : (y :: t).length - 1 - i = (t.length - 1 - i) + 1 := by simp; omega
   have ih := nB_set t i x hi'
   rw [e, List.set_cons_succ, nB_cons, nB_cons, List.getD_cons_succ, List.length_set]; omega
theorem nB_rep (n : Nat) : nB (List.replicate n 0) = 0 := by
 unfold nB; rw [List.reverse_replicate]; exact vl_rep (z := (0 : UInt8)) 256 UInt8.toNat rfl n
theorem mod_step (v i : Nat) : v % 256 ^ (i + 1) = v % 256 ^ i + 256 ^ i * (v / 256 ^ i % 256) := Nat.mod_pow_succ
structure Wr (l : List UInt8) (n i v : Nat) : Prop where
 len : l.length = n
 z : ∀ k, k + i < n → l.getD k 0 = 0
 val : nB l = v % 256 ^ i
theorem Wr.start (n v : Nat) : Wr (List.replicate n 0) n 0 v := ⟨by simp, fun k _ => by rw [List.getD_eq_getElem?_getD, List.getElem?_replicate]; split <;> rfl, by rw [nB_rep]; simp [Nat.mod_one]⟩
theorem Wr.step {l : List UInt8} {n i v : Nat} (h : Wr l n i v) (hi : i < n) {x : UInt8} (hx : x.toNat = v / 256 ^ i % 256) : Wr (l.set (n - 1 - i) x) n (i + 1) v := by
 have hl := h.len
 have hs := nB_set l i x (by omega)
 rw [hl, h.z (n - 1 - i) (by omega), h.val] at hs
 refine ⟨by rw [List.length_set]; exact hl, fun k hk => by rw [getD_set_ne _ _ (by omega)]; exact h.z k (by omega), ?_⟩
 rw [mod_step, ← hx]
 simpa using hs
theorem limb_byte (v i : Nat) : v / 4294967296 ^ (i / 4) % 4294967296 / 2 ^ (8 * (i % 4)) % 256 = v / 256 ^ i % 256 := by
 have e1 : (4294967296 : Nat) ^ (i / 4) = 256 ^ (4 * (i / 4)) := by rw [Nat.pow_mul]
 have e2 : (2 : Nat) ^ (8 * (i % 4)) = 256 ^ (i % 4) := by rw [Nat.pow_mul]
 have e3 : (4294967296 : Nat) = 256 ^ (i % 4) * (256 * 256 ^ (3 - i % 4)) := by
  rw [show 256 * 256 ^ (3 - i % 4) = 256 ^ (4 - i % 4) by rw [Nat.mul_comm, ← Nat.pow_succ]; congr 1; omega, ← Nat.pow_add, show i % 4 + (4 - i % 4) = 4 by omega]
 rw [e1, e2]
 conv => lhs; rw [e3]
 rw [Nat.mod_mul_right_div_self, Nat.div_div_eq_div_mul, ← Nat.pow_add, Nat.mod_mul_right_mod, show 4 * (i / 4) + i % 4 = i by omega]
theorem pWrite_l1_is (n : Nat) (v : Nat) (h64 : (nD v).length ≤ 64) : ∀ (m i fu : Nat) (l : List UInt8), i + m = 4 * (nD v).length → m < fu → Wr l 256 i v →
  ∃ r, pWrite_l1 n 256 (nD v, (nD v).length) fu l (i : Int) = some (r, 256, none) ∧ r.length = 256 ∧ nB r = v := by
 intro m
 induction m with
 | zero =>
  intro i fu l hi hf hw
  cases fu with
  | zero => omega
  | succ fu =>
   refine ⟨l, by rw [pWrite_l1, ite_f (by simp <;> omega)]; rfl, hw.len, ?_⟩
   rw [hw.val]
   refine Nat.mod_eq_of_lt ?_
   have := (D_len v (nD v).length).1 (Nat.le_refl _)
   rwa [show (4294967296 : Nat) = 256 ^ 4 from rfl, ← Nat.pow_mul, show 4 * (nD v).length = i by omega] at this
 | succ m ih =>
  intro i fu l hi hf hw
  cases fu with
  | zero => omega
  | succ fu =>
   have t1 : Int.tdiv (i : Int) 4 = ((i / 4 : Nat) : Int) := by rw [Int.tdiv_eq_ediv_of_nonneg (by omega)]; omega
   have t2 : 8 * Int.tmod (i : Int) 4 = ((8 * (i % 4) : Nat) : Int) := by rw [Int.tmod_eq_emod_of_nonneg (by omega)]; omega
   have e1 : ((256 : Int) - 1 - (i : Int)).toNat = 256 - 1 - i := by omega
   rw [pWrite_l1, ite_t (by simp <;> omega), t1, t2, e1, gd_pos (by decide), gd_pos (okI64 (by omega) (by omega)), gd_pos (by omega), gd_pos (by omega), gd_pos (by decide), gd_pos (okI64 (by omega) (by omega)), gd_pos (by omega), ite_t (by simp <;> omega), gd_pos (okI64 (by omega) (by omega)), gd_pos (okI64 (by omega) (by omega)), gd_pos (by omega), gd_pos (by show _ < ((256 : Nat) : Int); omega), Int.toNat_natCast]
   unfold pWrite_j1
   rw [gd_pos (okI64 (by omega) (by omega))]
   refine ih (i + 1) fu _ (by omega) (by omega) (hw.step (by omega) ?_)
   have e2 := shr32_is ((nD v).getD (i / 4) 0) (8 * (i % 4)) (by omega)
   rw [UInt32.toNat_toUInt8, e2, D_get, ← limb_byte]
theorem pWrite_is {n : Nat} (hn : 18446744073709551616 ≤ n) {a : List UInt32} (ha : a.length ≤ 1000000) :
  ∃ r, pWrite n a 256 = some r ∧ (64 < (nD (nV a)).length → r = ([], 0, some 4)) ∧ ((nD (nV a)).length ≤ 64 → r.1.length = 256 ∧ nB r.1 = nV a ∧ r.2.1 = 256 ∧ r.2.2 = none) := by
 unfold pWrite
 rw [ptrim_is hn ha, Option.bind_some]
 by_cases h : (nD (nV a)).length ≤ 64
 ·obtain ⟨r, h1, h2, h3⟩ := pWrite_l1_is n (nV a) h (4 * (nD (nV a)).length) 0 n _ (by omega) (by omega) (Wr.start 256 (nV a))
  rw [ite_f (by simp <;> omega), ite_f (by decide), ite_f (by decide), gd_pos (by decide), gd_pos (by decide), gd_pos (by decide), gd_pos (okI64 (by omega) (by omega))]
  exact ⟨_, h1, fun h' => by omega, fun _ => ⟨h2, h3, rfl, rfl⟩⟩
 ·rw [ite_t (by simp <;> omega)]
  exact ⟨_, rfl, fun _ => rfl, fun h' => absurd h' h⟩
def bigL (v : Nat) : List UInt8 := if dB v = [] ∨ 128 ≤ ((dB v).getD 0 0).toNat then 0 :: dB v else dB v
theorem dB_of {r : List UInt8} (h : r = [] ∨ (r.getD 0 0).toNat ≠ 0) : dB (nB r) = r := by
 refine nB_inj ?_ (nB_dB _)
 have h1 := nB_lt r
 have h2 := (dB_len (nB r) r.length).2 h1
 refine Nat.le_antisymm h2 ?_
 cases r with
 | nil => simp
 | cons x t =>
  simp only [List.getD_cons_zero] at h
  have hx : x.toNat ≠ 0 := h.resolve_left (by simp)
  refine Nat.le_of_not_lt fun hlt => ?_
  have h3 := (dB_len (nB (x :: t)) t.length).1 (by simp at hlt; omega)
  rw [nB_cons] at h3
  have := Nat.le_mul_of_pos_right (256 ^ t.length) (show 0 < x.toNat by omega)
  omega
theorem big_of {r : List UInt8} (h0 : r ≠ []) (h1 : (r.getD 0 0).toNat < 128) (hs : (decide (2 ≤ r.length) && spare r) = false) : r = bigL (nB r) := by
 cases r with
 | nil => exact absurd rfl h0
 | cons x t =>
  simp only [List.getD_cons_zero] at h1
  unfold bigL
  by_cases hx : x.toNat = 0
  ·have hx0 : x = 0 := UInt8.toNat_inj.1 hx
   subst hx0
   have hn : nB (0 :: t) = nB t := by rw [nB_cons]; simp
   have ht : t = [] ∨ 128 ≤ (t.getD 0 0).toNat := by
    cases t with
    | nil => exact .inl rfl
    | cons y t =>
     right
     simp [spare] at hs
     simpa using hs
   have hd : dB (nB t) = t := dB_of (ht.imp id fun h => by omega)
   rw [hn, hd, if_pos ht]
  ·have hd : dB (nB (x :: t)) = x :: t := dB_of (.inr (by simpa using hx))
   rw [hd, if_neg (by simp; omega)]
theorem pBig_l1_is (n : Nat) (v : Nat) : ∀ (m fu : Nat) (l : List UInt8), l.length = m + 1 → m < fu → l.length ≤ 1000 → (l.getD 0 0).toNat < 128 → nB l = v → pBig_l1 n fu l l.length = some (bigL v, none) := by
 intro m
 induction m with
 | zero =>
  intro fu l hl hf h8 h128 hv
  cases fu with
  | zero => omega
  | succ fu =>
   rw [pBig_l1, ite_f (by simp <;> omega)]
   unfold pBig_j1
   rw [gd_pos (by omega), ← hv, ← big_of (fun h => by rw [h] at hl; simp at hl) h128 (by simp; omega)]
 | succ m ih =>
  intro fu l hl hf h8 h128 hv
  cases fu with
  | zero => omega
  | succ fu =>
   match l, hl with
   | x :: y :: l, hl =>
    rw [pBig_l1, ite_t (by simp <;> omega), pspare_is n (by simp), Option.bind_some]
    simp only [List.getD_cons_zero] at h128
    cases hs : spare (x :: y :: l) with
    | true =>
     have hx : x.toNat = 0 ∧ y.toNat < 128 := by
      simp only [spare, List.getD_cons_zero, List.getD_cons_succ, Bool.or_eq_true, Bool.and_eq_true, beq_iff_eq, decide_eq_true_eq] at hs
      omega
     rw [ite_t rfl, gd_pos (by omega), gd_pos (by simp; omega)]
     have e : ((x :: y :: l).drop 1).take ((x :: y :: l).length - 1) = y :: l := by simp
     rw [e, show (x :: y :: l).length - 1 = (y :: l).length by simp]
     refine ih fu (y :: l) (by simpa using hl) (by omega) (by simp at h8 ⊢; omega) (by simpa using hx.2) ?_
     rw [← hv, nB_cons x, hx.1]; simp
    | false =>
     rw [ite_f rfl]
     unfold pBig_j1
     rw [gd_pos (by omega), ← hv, ← big_of (by simp) (by simpa using h128) (by rw [hs, Bool.and_false])]
theorem pBig_is {n : Nat} (hn : 18446744073709551616 ≤ n) {a : List UInt32} (ha : a.length ≤ 1000000) : pBig n a = some (if (nD (nV a)).length ≤ 64 then (bigL (nV a), none) else ([], some 4)) := by
 unfold pBig
 obtain ⟨r, hr, h1, h2⟩ := pWrite_is hn ha
 rw [hr, Option.bind_some]
 by_cases h : (nD (nV a)).length ≤ 64
 ·obtain ⟨h3, h4, h5, h6⟩ := h2 h
  rw [if_pos h, h6, ite_f (by rfl), h5, gd_pos (by decide)]
  have := pBig_l1_is n (nV a) 256 n ([0] ++ r.1) (by simp [h3]) (by omega) (by simp [h3]) (by simp) (by rw [List.singleton_append, nB_cons, h4]; simp)
  exact this
 ·rw [if_neg h, h1 (by omega), ite_t (by rfl)]
theorem nB_snoc (l : List UInt8) (x : UInt8) : nB (l ++ [x]) = nB l * 256 + x.toNat := by
 unfold nB; rw [List.reverse_append, List.reverse_singleton, List.singleton_append, vl_cons]; omega
theorem V_inj : ∀ {a b : List UInt32}, a.length = b.length → nV a = nV b → a = b
 | [], [], _, _ => rfl
 | x :: a, y :: b, hl, h => by
  have h1 := u32_lt x
  have h2 := u32_lt y
  rw [V_cons, V_cons] at h
  rw [V_inj (a := a) (b := b) (by simpa using hl) (by omega), UInt32.toNat_inj.1 (show x.toNat = y.toNat by omega)]
 | [], _ :: _, hl, _ => by simp at hl
 | _ :: _, [], hl, _ => by simp at hl
theorem limb_get (w : List UInt32) (k : Nat) (h : k < w.length) : nV w / 4294967296 ^ k % 4294967296 = (w.getD k 0).toNat := by
 have h1 := V_split w k
 have h2 := V_drop w k h
 have h3 := V_lt (w.take k)
 rw [List.length_take, Nat.min_eq_left (by omega)] at h3
 have h4 := u32_lt (w.getD k 0)
 have hp : 0 < 4294967296 ^ k := Nat.pow_pos (by decide)
 rw [h1, Nat.add_mul_div_left _ _ hp, Nat.div_eq_of_lt h3, h2]; omega
theorem or_byte (o : UInt32) (x : UInt8) (s : Nat) (hs : s < 4) (ho : o.toNat % 256 ^ (s + 1) = 0) : (o ||| shl32 x.toUInt32 ((8 * s : Nat) : Int)).toNat = o.toNat + 256 ^ s * x.toNat := by
 have hx := b_lt x
 have e0 : (2 : Nat) ^ (8 * s) = 256 ^ s := by rw [Nat.pow_mul]
 have hle : 256 ^ s ≤ 16777216 := Nat.le_trans (Nat.pow_le_pow_right (by decide) (show s ≤ 3 by omega)) (by decide)
 have hxs : x.toNat * 256 ^ s < 256 ^ (s + 1) := by
  rw [Nat.pow_succ, Nat.mul_comm]
  exact Nat.mul_lt_mul_of_pos_left hx (Nat.pow_pos (by decide))
 have hsm : x.toNat * 256 ^ s ≤ 255 * 16777216 := Nat.mul_le_mul (by omega) hle
 have e1 : (shl32 x.toUInt32 ((8 * s : Nat) : Int)).toNat = x.toNat * 256 ^ s := by
  unfold shl32
  rw [if_pos (by omega), Int.toNat_natCast, UInt32.toNat_shiftLeft, UInt8.toNat_toUInt32]
  have : (UInt32.ofNat (8 * s)).toNat % 32 = 8 * s := by simp; omega
  rw [this, Nat.shiftLeft_eq, e0]; omega
 obtain ⟨q, hq⟩ := Nat.dvd_of_mod_eq_zero ho
 have e2 : (256 : Nat) ^ (s + 1) = 2 ^ (8 * (s + 1)) := by rw [Nat.pow_mul]
 have h3 := Nat.shiftLeft_add_eq_or_of_lt (i := 8 * (s + 1)) (b := x.toNat * 256 ^ s) (by rw [← e2]; exact hxs) q
 rw [Nat.shiftLeft_eq, ← e2] at h3
 rw [UInt32.toNat_or, e1, hq, Nat.mul_comm _ q, ← h3, Nat.mul_comm x.toNat]
theorem pRead_l1_is (n : Nat) (b : List UInt8) (hb : b.length ≤ 256) : ∀ (m i fu : Nat) (w : List UInt32), i + m = b.length → m < fu → w.length = (b.length + 3) / 4 → nV w = nB (b.take i) * 256 ^ (b.length - i) →
  ∃ r, pRead_l1 n b b.length fu w (i : Int) = some (r, (b.length + 3) / 4, none) ∧ r.length = (b.length + 3) / 4 ∧ nV r = nB b := by
 have t0 : Int.tdiv (((b.length : Nat) : Int) + 3) 4 = (((b.length + 3) / 4 : Nat) : Int) := by rw [Int.tdiv_eq_ediv_of_nonneg (by omega)]; omega
 intro m
 induction m with
 | zero =>
  intro i fu w hi hf hw hv
  cases fu with
  | zero => omega
  | succ fu =>
   refine ⟨w, by rw [pRead_l1, ite_f (by simp <;> omega), t0, Int.toNat_natCast], hw, ?_⟩
   rw [hv, List.take_of_length_le (by omega), show b.length - i = 0 by omega]; simp
 | succ m ih =>
  intro i fu w hi hf hw hv
  cases fu with
  | zero => omega
  | succ fu =>
   obtain ⟨at', hat⟩ : ∃ k, k = b.length - 1 - i := ⟨_, rfl⟩
   have e1 : (((b.length : Nat) : Int) - 1) - (i : Int) = (at' : Int) := by omega
   have t1 : Int.tdiv (at' : Int) 4 = ((at' / 4 : Nat) : Int) := by rw [Int.tdiv_eq_ediv_of_nonneg (by omega)]; omega
   have t2 : 8 * Int.tmod (at' : Int) 4 = ((8 * (at' % 4) : Nat) : Int) := by rw [Int.tmod_eq_emod_of_nonneg (by omega)]; omega
   rw [pRead_l1, ite_t (by simp <;> omega), e1, t0, t1, t2, Int.toNat_natCast, Int.toNat_natCast, Int.toNat_natCast]
   rw [gd_pos (by omega), gd_pos (by omega), gd_pos (okI64 (by omega) (by omega)), gd_pos (okI64 (by omega) (by omega)), gd_pos (by decide), gd_pos (okI64 (by omega) (by omega)), gd_pos (by omega), gd_pos (by omega), gd_pos (by decide), gd_pos (okI64 (by omega) (by omega)), gd_pos (by omega), gd_pos (by omega), gd_pos (by omega), gd_pos (okI64 (by omega) (by omega))]
   have hk : at' / 4 < w.length := by omega
   have hpw : (4294967296 : Nat) ^ (at' / 4) = 256 ^ (4 * (at' / 4)) := by rw [Nat.pow_mul]
   have hg := limb_get w (at' / 4) hk
   have hz : (w.getD (at' / 4) 0).toNat % 256 ^ (at' % 4 + 1) = 0 := by
    rw [← hg, hv, show b.length - i = 4 * (at' / 4) + (at' % 4 + 1) by omega, hpw, Nat.pow_add, Nat.mul_comm (256 ^ (4 * (at' / 4))), ← Nat.mul_assoc, Nat.mul_div_cancel _ (Nat.pow_pos (by decide))]
    have e3 : (4294967296 : Nat) = 256 ^ (at' % 4 + 1) * 256 ^ (3 - at' % 4) := by rw [← Nat.pow_add, show at' % 4 + 1 + (3 - at' % 4) = 4 by omega]
    rw [e3, Nat.mod_mul_right_mod]; exact Nat.mul_mod_left _ _
   have ho := or_byte (w.getD (at' / 4) 0) (b.getD i 0) (at' % 4) (by omega) hz
   have hV := V_set w (at' / 4) (w.getD (at' / 4) 0 ||| shl32 (b.getD i 0).toUInt32 ((8 * (at' % 4) : Nat) : Int)) hk
   generalize w.getD (at' / 4) 0 ||| shl32 (b.getD i 0).toUInt32 ((8 * (at' % 4) : Nat) : Int) = o at *
   refine ih (i + 1) fu _ (by omega) (by omega) (by rw [List.length_set]; exact hw) ?_
   have e4 : b.take (i + 1) = b.take i ++ [b.getD i 0] := by
    rw [List.take_succ_eq_append_getElem (by omega), List.getD_eq_getElem?_getD, List.getElem?_eq_getElem (by omega)]; rfl
   have e5 : 256 ^ (b.length - i) = 256 * 256 ^ at' := by rw [show b.length - i = at' + 1 by omega, Nat.pow_succ, Nat.mul_comm]
   have e6 : (256 : Nat) ^ at' = 4294967296 ^ (at' / 4) * 256 ^ (at' % 4) := by rw [hpw, ← Nat.pow_add]; congr 1; omega
   rw [e4, nB_snoc, show b.length - (i + 1) = at' by omega]
   rw [e5] at hv
   have : nV (w.set (at' / 4) o) = nV w + 256 ^ at' * (b.getD i 0).toNat := by
    rw [ho, Nat.mul_add, ← Nat.mul_assoc, ← e6] at hV
    omega
   rw [this, hv]; grind
theorem D_len_dB (v : Nat) : (nD v).length = ((dB v).length + 3) / 4 := by
 have h : ∀ k, (nD v).length ≤ k ↔ (dB v).length ≤ 4 * k := fun k => by rw [D_len, dB_len, Nat.pow_mul]
 have h2 := (h (((dB v).length + 3) / 4)).2 (by omega)
 have h3 := (h (nD v).length).1 (Nat.le_refl _)
 omega
theorem pRead_l2_is {n : Nat} (hn : 18446744073709551616 ≤ n) (v : Nat) : ∀ (m fu : Nat) (l : List UInt8), l.length = m → m < fu → l.length ≤ 100000 → nB l = v →
  pRead_l2 n fu l l.length = some (if 256 < (dB v).length then ([], 0, some 4) else (nD v, (nD v).length, none)) := by
 have fin : ∀ (l : List UInt8), l.length ≤ 100000 → nB l = v → (l = [] ∨ (l.getD 0 0).toNat ≠ 0) → pRead_j1 n l l.length = some (if 256 < (dB v).length then ([], 0, some 4) else (nD v, (nD v).length, none)) := by
  intro l hl hv h0
  have hd := dB_of h0
  rw [hv] at hd
  unfold pRead_j1
  by_cases h256 : 256 < l.length
  ·rw [ite_t (by simp; omega), hd, if_pos h256]
  ·have t0 : Int.tdiv (((l.length : Nat) : Int) + 3) 4 = (((l.length + 3) / 4 : Nat) : Int) := by rw [Int.tdiv_eq_ediv_of_nonneg (by omega)]; omega
   rw [ite_f (by simp; omega), hd, if_neg h256, t0, Int.toNat_natCast, gd_pos (okI64 (by omega) (by omega)), gd_pos (by decide), gd_pos (okI64 (by omega) (by omega)), gd_pos (by omega), gd_pos (by trivial), gd_pos (by unfold rmB; omega)]
   obtain ⟨r, h1, h2, h3⟩ := pRead_l1_is n l (by omega) l.length 0 n (List.replicate ((l.length + 3) / 4) 0) (by omega) (by omega) (by simp) (by rw [V_rep]; simp [nB_nil])
   have hlen : (nD v).length = (l.length + 3) / 4 := by rw [D_len_dB, hd]
   have hr : r = nD v := V_inj (by rw [h2, hlen]) (by rw [h3, V_D, hv])
   rw [hr] at h1
   rw [hlen]
   exact h1
 intro m
 induction m with
 | zero =>
  intro fu l hl hf h8 hv
  cases fu with
  | zero => omega
  | succ fu =>
   obtain rfl := List.eq_nil_of_length_eq_zero hl
   rw [pRead_l2, ite_f (by simp)]
   exact fin [] h8 hv (.inl rfl)
 | succ m ih =>
  intro fu l hl hf h8 hv
  cases fu with
  | zero => omega
  | succ fu =>
   match l, hl with
   | x :: l, hl =>
    rw [pRead_l2, ite_t (by simp <;> omega), gd_pos (by omega), gd_pos (by simp <;> omega)]
    simp only [List.getD_cons_zero]
    by_cases hx : x = 0
    ·rw [ite_t (by rw [hx]; rfl), gd_pos (by omega), gd_pos (by simp; omega)]
     have e : ((x :: l).drop 1).take ((x :: l).length - 1) = l := by simp
     rw [e, show (x :: l).length - 1 = l.length by simp]
     exact ih fu l (by simpa using hl) (by omega) (by simp at h8; omega) (by rw [← hv, nB_cons, hx]; simp)
    ·rw [ite_f (by simp only [beq_eq_false_iff_ne]; exact hx)]
     exact fin (x :: l) h8 hv (.inr (by simp only [List.getD_cons_zero]; exact fun h => hx (UInt8.toNat_inj.1 h)))
theorem pRead_is {n : Nat} (hn : 18446744073709551616 ≤ n) {l : List UInt8} (hl : l.length ≤ 100000) : pRead n l = some (if 256 < (dB (nB l)).length then ([], 0, some 4) else (nD (nB l), (nD (nB l)).length, none)) :=
 pRead_l2_is hn (nB l) l.length n l rfl (by omega) hl rfl
theorem pReadBig_is {n : Nat} (hn : 18446744073709551616 ≤ n) {l : List UInt8} (hl : l.length ≤ 100000) : pReadBig n l = some (if l = [] ∨ 128 ≤ (l.getD 0 0).toNat ∨ (2 ≤ l.length ∧ spare l = true) then ([], 0, some 2) else if 256 < (dB (nB l)).length then ([], 0, some 4) else (nD (nB l), (nD (nB l)).length, none)) := by
 unfold pReadBig
 by_cases h0 : l = []
 ·rw [ite_t (by rw [h0]; rfl), if_pos (.inl h0)]
 ·have hlp := List.length_pos_iff.2 h0
  rw [ite_f (by simp only [beq_eq_false_iff_ne]; omega), gd_pos (by omega), gd_pos (by omega)]
  by_cases h1 : 128 ≤ (l.getD 0 0).toNat
  ·rw [ite_t (by simp only [decide_eq_true_eq, UInt8.le_iff_toNat_le]; exact h1), if_pos (.inr (.inl h1))]
  ·rw [ite_f (by simp only [decide_eq_false_iff_not, UInt8.le_iff_toNat_le]; exact h1)]
   by_cases h2 : 2 ≤ l.length
   ·rw [ite_t (by simp; omega), pspare_is n h2, Option.bind_some]
    cases hs : spare l with
    | true => rw [ite_t rfl, if_pos (.inr (.inr ⟨h2, rfl⟩))]
    | false => rw [ite_f rfl, if_neg (by simp only [not_or]; exact ⟨h0, h1, fun h => by cases h.2⟩), pRead_is hn hl]; split <;> rfl
   ·rw [ite_f (by simp; omega), if_neg (by simp only [not_or]; exact ⟨h0, h1, fun h => h2 h.1⟩), pRead_is hn hl]; split <;> rfl
def NB : Nat := 4294967296 ^ 3
theorem NB_ok : 18446744073709551616 ≤ NB := by decide
theorem upB : pup NB = some true := by decide +kernel
theorem E_of_dB {l : List UInt8} : (nE (nB l)).length ≤ l.length := by
 rw [E_len]
 refine Nat.lt_of_lt_of_le (nB_lt l) (Nat.pow_le_pow_left (by decide) _)
end Go.Sx
end
section
namespace Go.Sx
open Go Go.RowKit Go.Ch Go.Proofs.Ytliilihbnhdemaa
def bitsOk (b : List UInt8) (k : Int) : Bool := if 0 ≤ k ∧ k ≤ 7 ∧ b ≠ [] then (b.getD (b.length - 1) 0).toNat % 2 ^ k.toNat == 0 else k == 0
theorem mask_all : ∀ (i : Fin 256) (k : Fin 8), ((UInt8.ofNat i.val &&& (shl8 1 (k.val : Int) - 1)) == 0) = (i.val % 2 ^ k.val == 0) := by decide +kernel
theorem mask_is (x : UInt8) (k : Nat) (hk : k ≤ 7) : ((x &&& (shl8 1 (k : Int) - 1)) == 0) = (x.toNat % 2 ^ k == 0) := by
 have := mask_all ⟨x.toNat, x.toNat_lt⟩ ⟨k, by omega⟩
 simpa using this
theorem pfits_is (n : Nat) (b : List UInt8) (k : Int) (hb : b.length ≤ 1000000) : pfits n b k = some (bitsOk b k) := by
 unfold pfits bitsOk
 by_cases h1 : k < 0
 ·rw [ite_t (decide_eq_true h1), if_neg (by omega)]
 ·rw [ite_f (decide_eq_false h1)]
  by_cases h2 : 7 < k
  ·rw [ite_t (decide_eq_true h2), if_neg (by omega)]
  ·rw [ite_f (decide_eq_false h2)]
   cases b with
   | nil => rw [ite_t (by rfl), if_neg (by simp)]
   | cons x l =>
    rw [ite_f (by simp; omega), gd_pos (okI64 (by omega) (by omega)), gd_pos (by simp only [List.length_cons]; omega), gd_pos (by omega), gd_pos (by omega), if_pos ⟨by omega, by omega, by simp⟩]
    have e : (((((x :: l).length : Nat) : Int) - 1).toNat) = (x :: l).length - 1 := by omega
    rw [e]
    obtain ⟨q, rfl⟩ := Int.eq_ofNat_of_zero_le (show 0 ≤ k by omega)
    rw [mask_is _ q (by omega)]; rfl
theorem pReadBits_is (n : Nat) (a : List UInt8) (ha : a.length ≤ 1000000) (h : a.length ≠ 0) : pReadBits n a = some (if bitsOk ((a.drop 1).take (a.length - 1)) (((a.getD 0 0).toNat : Nat) : Int) then ((a.drop 1).take (a.length - 1), (((a.getD 0 0).toNat : Nat) : Int), none) else ([], 0, some 2)) := by
 unfold pReadBits
 rw [ite_f (by simp only [beq_eq_false_iff_ne]; omega), gd_pos (by omega), gd_pos (by omega), gd_pos (by simp; omega), gd_pos (by omega), gd_pos (by omega), pfits_is n _ _ (by simp; omega), Option.bind_some]
 cases bitsOk ((a.drop 1).take (a.length - 1)) (((a.getD 0 0).toNat : Nat) : Int) with
 | true => rw [ite_f (by rfl)]; rfl
 | false => rw [ite_t (by rfl)]; rfl
def cnt : Nat → Nat → List UInt8
 | 0, _ => []
 | f + 1, m => if m = 0 then [] else cnt f (m / 128) ++ [UInt8.ofNat (m % 128 + 128)]
def gN (m : Nat) : List UInt8 := cnt 5 (m / 128) ++ [UInt8.ofNat (m % 128)]
theorem cnt_0 (f : Nat) : cnt f 0 = [] := by cases f <;> simp [cnt]
theorem cnt_up : ∀ (f m : Nat), m < 128 ^ f → cnt (f + 1) m = cnt f m
 | 0, m, h => by
  obtain rfl : m = 0 := by simpa using h
  rfl
 | f + 1, m, h => by
  rw [cnt]
  conv => rhs; rw [cnt]
  by_cases h0 : m = 0
  ·rw [if_pos h0, if_pos h0]
  ·rw [if_neg h0, if_neg h0, cnt_up f (m / 128) (Nat.div_lt_of_lt_mul (by rw [Nat.pow_succ] at h; omega))]
theorem cnt_step {m d : Nat} (h0 : 0 < m) (hd : d < 128) (h : m * 128 + d < 4294967296) : cnt 5 (m * 128 + d) = cnt 5 m ++ [UInt8.ofNat (d + 128)] := by
 rw [cnt, if_neg (by omega), show (m * 128 + d) / 128 = m by omega, show (m * 128 + d) % 128 = d by omega, cnt_up 4 m (by omega)]
theorem cnt_small {d : Nat} (h0 : 0 < d) (hd : d < 128) : cnt 5 d = [UInt8.ofNat (d + 128)] := by
 rw [cnt, if_neg (by omega), show d / 128 = 0 by omega, show d % 128 = d by omega, cnt_0]; rfl
theorem gN_step {m d : Nat} (hd : d < 128) : gN (m * 128 + d) = cnt 5 m ++ [UInt8.ofNat d] := by
 unfold gN; rw [show (m * 128 + d) / 128 = m by omega, show (m * 128 + d) % 128 = d by omega]
theorem cnt_len : ∀ (f m : Nat), (cnt f m).length ≤ f
 | 0, _ => Nat.le_refl _
 | f + 1, m => by
  rw [cnt]; split
  ·simp
  ·have := cnt_len f (m / 128); simp; omega
theorem or128 : ∀ k : Fin 128, (UInt8.ofNat k.1 ||| 128) = UInt8.ofNat (k.1 + 128) := by decide
theorem low7 (n : UInt32) : (n &&& 127).toUInt8 = UInt8.ofNat (n.toNat % 128) := by
 apply UInt8.toNat_inj.1
 rw [UInt32.toNat_toUInt8, UInt32.toNat_and, show (127 : UInt32).toNat = 2 ^ 7 - 1 from rfl, Nat.and_two_pow_sub_one_eq_mod]
 simp
theorem shr7n (n : UInt32) : (n >>> 7).toNat = n.toNat / 128 := by
 rw [UInt32.toNat_shiftRight, show (7 : UInt32).toNat % 32 = 7 from rfl, Nat.shiftRight_eq_div_pow]
theorem grpT_is : ∀ (f : Nat) (n : UInt32), (grpT f n).reverse = cnt f n.toNat
 | 0, _ => rfl
 | f + 1, n => by
  rw [grpT, cnt]
  by_cases h : n = 0
  ·subst h; rfl
  ·have h' : ¬ n.toNat = 0 := fun e => h (UInt32.toNat_inj.1 e)
   rw [if_neg h, if_neg h', List.reverse_cons, grpT_is f, shr7n, low7, or128 ⟨n.toNat % 128, Nat.mod_lt _ (by decide)⟩]
theorem grp_is (n : UInt32) : grp n = gN n.toNat := by
 unfold grp gN
 rw [List.reverse_cons, grpT_is, shr7n, low7]
def oidOk (l : List UInt32) : Bool := decide (2 ≤ l.length) && decide (l.length ≤ 16) && (decide (l.getD 0 0 < 2) && decide (l.getD 1 0 < 40) || l.getD 0 0 == 2 && decide ((l.getD 1 0).toNat ≤ 4294967215))
theorem u32_3 (x : UInt32) : x < 2 ∨ x = 2 ∨ 2 < x := by
 rw [UInt32.lt_iff_toNat_lt, UInt32.lt_iff_toNat_lt, ← UInt32.toNat_inj]; show x.toNat < 2 ∨ x.toNat = 2 ∨ 2 < x.toNat; omega
theorem pident_is (n : Nat) (l : List UInt32) : pident n l = some (oidOk l) := by
 unfold pident oidOk
 by_cases h1 : l.length < 2
 ·rw [ite_t (decide_eq_true (by omega)), decide_eq_false (show ¬ 2 ≤ l.length by omega)]; rfl
 ·rw [ite_f (decide_eq_false (by omega)), decide_eq_true (show 2 ≤ l.length by omega)]
  by_cases h2 : 16 < l.length
  ·rw [ite_t (decide_eq_true (by omega)), decide_eq_false (show ¬ l.length ≤ 16 by omega)]; rfl
  ·rw [ite_f (decide_eq_false (by omega)), decide_eq_true (show l.length ≤ 16 by omega), gd_pos (by omega), gd_pos (by omega)]
   rcases u32_3 (l.getD 0 0) with h | h | h
   ·have h' : ¬ 2 < l.getD 0 0 := fun h2 => UInt32.lt_irrefl _ (UInt32.lt_trans h h2)
    have h3 : (l.getD 0 0 == 2) = false := beq_eq_false_iff_ne.2 fun e => UInt32.lt_irrefl _ (e ▸ h)
    rw [ite_f (decide_eq_false h'), gd_pos (by omega), gd_pos (by omega), ite_t (decide_eq_true h), gd_pos (by omega), gd_pos (by omega), decide_eq_true h, h3]; simp
   ·rw [h, ite_f (by decide), gd_pos (by omega), gd_pos (by omega), ite_f (by decide), gd_pos (by omega), gd_pos (by omega)]
    have e : (((l.getD 1 0).toUInt64 + 80 : UInt64) < 4294967296) ↔ (l.getD 1 0).toNat ≤ 4294967215 := by
     rw [UInt64.lt_iff_toNat_lt, UInt64.toNat_add, UInt32.toNat_toUInt64]
     have := (l.getD 1 0).toNat_lt
     show ((l.getD 1 0).toNat + 80) % 2 ^ 64 < 4294967296 ↔ _
     omega
    rw [show (decide (((l.getD 1 0).toUInt64 + 80 : UInt64) < 4294967296)) = decide ((l.getD 1 0).toNat ≤ 4294967215) from decide_eq_decide.2 e]
    simp
   ·have h' : ¬ l.getD 0 0 < 2 := fun h2 => UInt32.lt_irrefl _ (UInt32.lt_trans h h2)
    have h3 : (l.getD 0 0 == 2) = false := beq_eq_false_iff_ne.2 fun e => UInt32.lt_irrefl _ (e ▸ h)
    rw [ite_t (decide_eq_true h), decide_eq_false h', h3]; rfl
theorem oidOk_len {l : List UInt32} (h : oidOk l = true) : 2 ≤ l.length ∧ l.length ≤ 16 := by
 unfold oidOk at h
 simp only [Bool.and_eq_true, decide_eq_true_eq] at h
 exact ⟨h.1.1, h.1.2⟩
def grps (l : List UInt32) : List UInt8 := (l.map grp).flatten
theorem grps_cons (x : UInt32) (l : List UInt32) : grps (x :: l) = grp x ++ grps l := rfl
def bodyOf (l : List UInt32) : List UInt8 := grp (40 * l.getD 0 0 + l.getD 1 0) ++ grps (l.drop 2)
theorem drop_at {α : Type} {l : List α} {i : Nat} {z : α} (h : i < l.length) : l.drop i = l.getD i z :: l.drop (i + 1) := by
 rw [List.drop_eq_getElem_cons h, List.getD_eq_getElem?_getD, List.getElem?_eq_getElem h]; rfl
def pRd : List UInt8 → List UInt32 → Nat → Bool → Option (List UInt32)
 | [], acc, _, bg => if bg then none else some acc
 | x :: t, acc, n, bg => if (bg = false ∧ x = 128) ∨ 16 < acc.length then none
 else if 4294967296 ≤ n * 128 + x.toNat % 128 then none
 else if x < 128 then pRd t (acc ++ [UInt32.ofNat (n * 128 + x.toNat % 128)]) 0 false else pRd t acc (n * 128 + x.toNat % 128) true
def rRd : List UInt8 → List UInt32 → Nat → List UInt32
 | [], acc, _ => acc
 | x :: t, acc, n => if x < 128 then rRd t (acc ++ [UInt32.ofNat ((n * 128 + x.toNat % 128) % 4294967296)]) 0 else rRd t acc ((n * 128 + x.toNat % 128) % 4294967296)
theorem b_hi {d : Nat} (h : d < 128) : ¬ (UInt8.ofNat (d + 128) < 128) ∧ (UInt8.ofNat (d + 128)).toNat % 128 = d ∧ (UInt8.ofNat (d + 128) = 128 ↔ d = 0) := by
 have e : (UInt8.ofNat (d + 128)).toNat = d + 128 := by simp; omega
 refine ⟨by rw [UInt8.lt_iff_toNat_lt, e]; show ¬ d + 128 < 128; omega, by rw [e]; omega, ?_⟩
 rw [← UInt8.toNat_inj, e]; show d + 128 = 128 ↔ _; omega
theorem b_lo {d : Nat} (h : d < 128) : UInt8.ofNat d < 128 ∧ (UInt8.ofNat d).toNat % 128 = d ∧ UInt8.ofNat d ≠ 128 := by
 have e : (UInt8.ofNat d).toNat = d := by simp; omega
 refine ⟨by rw [UInt8.lt_iff_toNat_lt, e]; exact h, by rw [e]; omega, fun h2 => ?_⟩
 rw [← UInt8.toNat_inj, e] at h2; revert h2; show ¬ d = 128; omega
theorem cnt_div {m : Nat} (h0 : 0 < m) (h : m < 4294967296) : cnt 5 m = cnt 5 (m / 128) ++ [UInt8.ofNat (m % 128 + 128)] := by
 have := cnt_up 4 (m / 128) (by omega)
 rw [this]
 conv => lhs; rw [cnt, if_neg (by omega)]
theorem pRd_cnt : ∀ (k m : Nat) (t : List UInt8) (acc : List UInt32), m < k → 0 < m → m < 4294967296 → acc.length ≤ 16 → pRd (cnt 5 m ++ t) acc 0 false = pRd t acc m true
 | 0, _, _, _, h, _, _, _ => by omega
 | k + 1, m, t, acc, hk, h0, hm, ha => by
  obtain ⟨a1, a2, a3⟩ := b_hi (show m % 128 < 128 from Nat.mod_lt _ (by decide))
  rw [cnt_div h0 hm]
  by_cases h : m / 128 = 0
  ·rw [h, cnt_0, List.nil_append, List.singleton_append, pRd, if_neg (by rw [a3]; rintro (⟨_, h2⟩ | h2) <;> omega), a2, if_neg (by omega), if_neg a1]
   congr 1; omega
  ·rw [List.append_assoc, pRd_cnt k (m / 128) _ acc (by omega) (by omega) (by omega) ha, List.singleton_append, pRd, if_neg (by rintro (⟨h2, _⟩ | h2) <;> first | cases h2 | omega), a2, if_neg (by omega), if_neg a1]
   congr 1; omega
theorem pRd_grp (x : UInt32) (t : List UInt8) (acc : List UInt32) (ha : acc.length ≤ 16) : pRd (grp x ++ t) acc 0 false = pRd t (acc ++ [x]) 0 false := by
 have hx : x.toNat < 4294967296 := x.toNat_lt
 obtain ⟨a1, a2, a3⟩ := b_lo (show x.toNat % 128 < 128 from Nat.mod_lt _ (by decide))
 rw [grp_is]; unfold gN
 by_cases h : x.toNat / 128 = 0
 ·rw [h, cnt_0, List.nil_append, List.singleton_append, pRd, if_neg (by rintro (⟨_, h2⟩ | h2); exact a3 h2; omega), a2, if_neg (by omega), if_pos a1]
  congr 3
  rw [show 0 * 128 + x.toNat % 128 = x.toNat by omega, UInt32.ofNat_toNat]
 ·rw [List.append_assoc, pRd_cnt (x.toNat / 128 + 1) _ _ acc (by omega) (by omega) (by omega) ha, List.singleton_append, pRd, if_neg (by rintro (⟨h2, _⟩ | h2) <;> first | cases h2 | omega), a2, if_neg (by omega), if_pos a1]
  congr 3
  rw [show x.toNat / 128 * 128 + x.toNat % 128 = x.toNat by omega, UInt32.ofNat_toNat]
theorem pRd_grps : ∀ (ws acc : List UInt32), acc.length + ws.length ≤ 17 → pRd (grps ws) acc 0 false = some (acc ++ ws)
 | [], acc, _ => by simp [grps, pRd]
 | x :: ws, acc, h => by
  rw [List.length_cons] at h
  rw [grps_cons, pRd_grp x _ acc (by omega), pRd_grps ws _ (by simp; omega)]; simp
theorem rRd_cnt : ∀ (k m : Nat) (t : List UInt8) (acc : List UInt32), m < k → m < 4294967296 → rRd (cnt 5 m ++ t) acc 0 = rRd t acc m
 | 0, _, _, _, h, _ => by omega
 | k + 1, m, t, acc, hk, hm => by
  by_cases h0 : m = 0
  ·rw [h0, cnt_0]; rfl
  obtain ⟨a1, a2, a3⟩ := b_hi (show m % 128 < 128 from Nat.mod_lt _ (by decide))
  rw [cnt_div (by omega) hm, List.append_assoc, rRd_cnt k (m / 128) _ acc (by omega) (by omega), List.singleton_append, rRd, if_neg a1, a2]
  congr 1; omega
theorem rRd_grp (x : UInt32) (t : List UInt8) (acc : List UInt32) : rRd (grp x ++ t) acc 0 = rRd t (acc ++ [x]) 0 := by
 have hx : x.toNat < 4294967296 := x.toNat_lt
 obtain ⟨a1, a2, a3⟩ := b_lo (show x.toNat % 128 < 128 from Nat.mod_lt _ (by decide))
 rw [grp_is]; unfold gN
 rw [List.append_assoc, rRd_cnt (x.toNat / 128 + 1) _ _ acc (by omega) (by omega), List.singleton_append, rRd, if_pos a1, a2]
 congr 3
 rw [show (x.toNat / 128 * 128 + x.toNat % 128) % 4294967296 = x.toNat by omega, UInt32.ofNat_toNat]
theorem rRd_grps : ∀ (ws acc : List UInt32), rRd (grps ws) acc 0 = acc ++ ws
 | [], acc => by simp [grps, rRd]
 | x :: ws, acc => by rw [grps_cons, rRd_grp, rRd_grps ws]; simp
theorem byte_hi {x : UInt8} (h : ¬ x < 128) : x = UInt8.ofNat (x.toNat % 128 + 128) := by
 rw [UInt8.lt_iff_toNat_lt] at h
 have h2 : 128 ≤ x.toNat := Nat.le_of_not_lt h
 have := x.toNat_lt
 apply UInt8.toNat_inj.1; simp; omega
theorem byte_lo {x : UInt8} (h : x < 128) : x = UInt8.ofNat (x.toNat % 128) := by
 rw [UInt8.lt_iff_toNat_lt] at h
 have h2 : x.toNat < 128 := h
 apply UInt8.toNat_inj.1; simp; omega
theorem pRd_some : ∀ (t : List UInt8) (acc w : List UInt32) (n : Nat) (bg : Bool), (bg = false → n = 0) → (bg = true → 0 < n) → n < 4294967296 → pRd t acc n bg = some w → ∃ ws, w = acc ++ ws ∧ cnt 5 n ++ t = grps ws
 | [], acc, w, n, bg, h0, h1, hn, h => by
  rw [pRd] at h
  cases bg with
  | true => cases h
  | false =>
   obtain rfl := h0 rfl
   injection h with h
   exact ⟨[], by simp [h], rfl⟩
 | x :: t, acc, w, n, bg, h0, h1, hn, h => by
  rw [pRd] at h
  split at h
  ·cases h
  ·rename_i hc
   split at h
   ·cases h
   ·rename_i hlt
    have hm : x.toNat % 128 < 128 := Nat.mod_lt _ (by decide)
    split at h
    ·rename_i hx
     obtain ⟨ws, rfl, hw⟩ := pRd_some t _ w 0 false (fun _ => rfl) (fun e => by cases e) (by decide) h
     refine ⟨UInt32.ofNat (n * 128 + x.toNat % 128) :: ws, by simp, ?_⟩
     have e : (UInt32.ofNat (n * 128 + x.toNat % 128)).toNat = n * 128 + x.toNat % 128 := by simp; omega
     rw [cnt_0, List.nil_append] at hw
     rw [grps_cons, grp_is, e, gN_step hm, ← byte_lo hx, ← hw]; simp
    ·rename_i hx
     have hpos : 0 < n * 128 + x.toNat % 128 := by
      cases bg with
      | true => have := h1 rfl; omega
      | false =>
       have hne : x ≠ 128 := fun e => hc (.inl ⟨rfl, e⟩)
       rw [byte_hi hx] at hne
       have : ¬ x.toNat % 128 = 0 := fun e => hne ((b_hi hm).2.2.2 e)
       omega
     obtain ⟨ws, rfl, hw⟩ := pRd_some t _ w _ true (fun e => by cases e) (fun _ => hpos) (by omega) h
     refine ⟨ws, rfl, ?_⟩
     rw [← hw]
     have : cnt 5 (n * 128 + x.toNat % 128) = cnt 5 n ++ [x] := by
      rcases Nat.eq_zero_or_pos n with hz | hz
      ·subst hz
       rw [cnt_0, Nat.zero_mul, Nat.zero_add, cnt_small (by omega) hm, ← byte_hi hx]; rfl
      ·rw [cnt_step hz hm (by omega), ← byte_hi hx]
     rw [this]; simp
def lOf (w : List UInt32) : List UInt32 := [if 2 < w.getD 0 0 / 40 then 2 else w.getD 0 0 / 40, w.getD 0 0 - 40 * (if 2 < w.getD 0 0 / 40 then 2 else w.getD 0 0 / 40)] ++ w.drop 1
theorem u32_back (a b : UInt32) : a + (b - a) = b := by
 apply UInt32.toNat_inj.1
 have ha := a.toNat_lt; have hb := b.toNat_lt
 rw [UInt32.toNat_add, UInt32.toNat_sub]
 omega
theorem bodyOf_lOf {w : List UInt32} (h : w ≠ []) : bodyOf (lOf w) = grps w := by
 cases w with
 | nil => exact absurd rfl h
 | cons x t =>
  unfold bodyOf lOf
  exact congrArg (fun y => grp y ++ grps t) (u32_back _ x)
def pFin (w : List UInt32) : List UInt32 × Option Int := if w ≠ [] ∧ oidOk (lOf w) = true then (lOf w, none) else ([], some 2)
def rFin (a : List UInt8) (w : List UInt32) : List UInt32 × Bool := if w ≠ [] ∧ oidOk (lOf w) = true ∧ bodyOf (lOf w) = a then (lOf w, true) else ([], false)
def pAll (a : List UInt8) : List UInt32 × Option Int := match pRd a [] 0 false with | none => ([], some 2) | some w => pFin w
def rAll (a : List UInt8) : List UInt32 × Bool := if 100 < a.length then ([], false) else rFin a (rRd a [] 0)
theorem lOf_len {w : List UInt32} (h : w ≠ []) : (lOf w).length = w.length + 1 := by
 cases w with
 | nil => exact absurd rfl h
 | cons x t => simp [lOf]
theorem grps_len5 : ∀ l : List UInt32, (grps l).length ≤ 5 * l.length
 | [] => Nat.le_refl _
 | x :: l => by
  rw [grps_cons, List.length_append, List.length_cons]
  have := grps_len5 l
  have hx : x.toNat < 4294967296 := x.toNat_lt
  have : (grp x).length ≤ 5 := by
   rw [grp_is]; unfold gN; rw [cnt_up 4 _ (by omega)]
   have := cnt_len 4 (x.toNat / 128); simp; omega
  omega
theorem all_eq (a : List UInt8) : (∃ l, oidOk l = true ∧ bodyOf l = a ∧ pAll a = (l, none) ∧ rAll a = (l, true)) ∨ (pAll a = ([], some 2) ∧ rAll a = ([], false)) := by
 cases h : pRd a [] 0 false with
 | some w =>
  obtain ⟨ws, e, hw⟩ := pRd_some a [] w 0 false (fun _ => rfl) (fun e => by cases e) (by decide) h
  rw [List.nil_append] at e; subst e
  rw [cnt_0, List.nil_append] at hw
  by_cases hc : w ≠ [] ∧ oidOk (lOf w) = true
  ·refine .inl ⟨lOf w, hc.2, by rw [bodyOf_lOf hc.1, hw], ?_, ?_⟩
   ·unfold pAll; rw [h]; exact if_pos hc
   ·unfold rAll
    have h1 := (oidOk_len hc.2).2
    rw [lOf_len hc.1] at h1
    have h2 := grps_len5 w
    rw [if_neg (by rw [hw]; omega)]
    have e : rRd a [] 0 = w := by rw [hw, rRd_grps]; rfl
    rw [e]; exact if_pos ⟨hc.1, hc.2, by rw [bodyOf_lOf hc.1, hw]⟩
  ·refine .inr ⟨?_, ?_⟩
   ·unfold pAll; rw [h]; exact if_neg hc
   ·unfold rAll
    split
    ·rfl
    ·have e : rRd a [] 0 = w := by rw [hw, rRd_grps]; rfl
     rw [e]; exact if_neg fun hh => hc ⟨hh.1, hh.2.1⟩
 | none =>
  refine .inr ⟨by unfold pAll; rw [h], ?_⟩
  unfold rAll
  split
  ·rfl
  ·refine if_neg fun ⟨h1, h2, h3⟩ => ?_
   rw [bodyOf_lOf h1] at h3
   have h4 := (oidOk_len h2).2
   rw [lOf_len h1] at h4
   generalize rRd a [] 0 = w at *
   rw [← h3, pRd_grps w [] (by simp; omega)] at h
   cases h
theorem shl7_or (y : UInt64) (x : UInt8) (h : y.toNat < 4294967296) : (shl64 y 7 ||| (x &&& 127).toUInt64).toNat = y.toNat * 128 + x.toNat % 128 := by
 have e1 : (shl64 y 7).toNat = y.toNat * 128 := by
  unfold shl64
  rw [if_pos (by decide), UInt64.toNat_shiftLeft, show (UInt64.ofNat (7 : Int).toNat).toNat % 64 = 7 from rfl, Nat.shiftLeft_eq]
  omega
 have e2 : (x &&& 127).toUInt64.toNat = x.toNat % 128 := by
  rw [UInt8.toNat_toUInt64, UInt8.toNat_and, show (127 : UInt8).toNat = 2 ^ 7 - 1 from rfl, Nat.and_two_pow_sub_one_eq_mod]
 rw [UInt64.toNat_or, e1, e2, show y.toNat * 128 = y.toNat <<< 7 by rw [Nat.shiftLeft_eq], ← Nat.shiftLeft_add_eq_or_of_lt (Nat.mod_lt _ (by decide)), Nat.shiftLeft_eq]
def pEnd (o : Option (List UInt32)) : List UInt32 × Option Int := match o with | none => ([], some 2) | some w => pFin w
theorem flat2 (w : List UInt32) (f g : UInt32) : ([[f, g], ((w.drop 1).take (w.length - 1))] : List (List UInt32)).flatten = [f, g] ++ w.drop 1 := by
 rw [List.take_of_length_le (by simp)]; simp
theorem pReadOid_l1_is (n : Nat) {a : List UInt8} (ha : a.length ≤ 1000) : ∀ (m i fu : Nat) (w : List UInt32) (y : UInt64) (bg : Bool), i + m = a.length → m < fu → w.length ≤ 17 → y.toNat < 4294967296 →
  pReadOid_l1 n a fu w y bg (i : Int) = some (pEnd (pRd (a.drop i) w y.toNat bg)) := by
 intro m
 induction m with
 | zero =>
  intro i fu w y bg hi hf hw hy
  cases fu with
  | zero => omega
  | succ fu =>
   rw [pReadOid_l1, ite_f (decide_eq_false (by omega)), List.drop_eq_nil_of_le (show a.length ≤ i by omega), pRd]
   cases bg with
   | true => rfl
   | false =>
    rw [ite_f (by rfl)]
    by_cases h0 : w = []
    ·subst h0; rfl
    ·have hpos : 0 < w.length := List.length_pos_iff.2 h0
     rw [ite_f (by simp; omega), gd_pos (by omega), gd_pos (by omega), gd_pos (by decide), gd_pos (by omega), gd_pos (by omega), gd_pos (by omega), gd_pos (by omega), flat2]
     have hl : (lOf w).length ≤ 18 := by rw [lOf_len h0]; omega
     rw [gd_pos (by simp), gd_pos (by have := hl; unfold lOf at this; omega)]
     change ((pident n (lOf w)).bind fun r => bif !r then some ([], some 2) else some (lOf w, none)) = _
     rw [pident_is, Option.bind_some, if_neg (by simp)]
     show _ = some (pFin w)
     unfold pFin
     cases h : oidOk (lOf w) with
     | true => rw [if_pos ⟨h0, rfl⟩]; rfl
     | false => rw [if_neg (by simp)]; rfl
 | succ m ih =>
  intro i fu w y bg hi hf hw hy
  cases fu with
  | zero => omega
  | succ fu =>
   have hd := drop_at (l := a) (z := 0) (show i < a.length by omega)
   have hy7 := shl7_or y (a.getD i 0) hy
   have hlast : ∀ hw16 : w.length ≤ 16, (gd (0 ≤ (7 : Int)) <|
     bif (decide ((4294967296 : UInt64) ≤ ((shl64 y 7) ||| (((a.getD i 0) &&& (127 : UInt8)).toUInt64)))) then some ([], (some 2))
     else bif (decide ((a.getD i 0) < (128 : UInt8))) then
       gd (rmB (w.length + 1) 4) <| pReadOid_j1 n a (i : Int) (pReadOid_l1 n a fu) (w ++ [((shl64 y 7) ||| (((a.getD i 0) &&& (127 : UInt8)).toUInt64)).toUInt32]) 0 false
      else pReadOid_j1 n a (i : Int) (pReadOid_l1 n a fu) w ((shl64 y 7) ||| (((a.getD i 0) &&& (127 : UInt8)).toUInt64)) true) =
     some (pEnd (if 4294967296 ≤ y.toNat * 128 + (a.getD i 0).toNat % 128 then none
      else if a.getD i 0 < 128 then pRd (a.drop (i + 1)) (w ++ [UInt32.ofNat (y.toNat * 128 + (a.getD i 0).toNat % 128)]) 0 false else pRd (a.drop (i + 1)) w (y.toNat * 128 + (a.getD i 0).toNat % 128) true)) := by
    intro hw16
    rw [gd_pos (by decide)]
    by_cases hbig : 4294967296 ≤ y.toNat * 128 + (a.getD i 0).toNat % 128
    ·rw [if_pos hbig, ite_t (decide_eq_true (by rw [UInt64.le_iff_toNat_le, hy7]; exact hbig))]; rfl
    ·rw [if_neg hbig, ite_f (decide_eq_false (by rw [UInt64.le_iff_toNat_le, hy7]; exact hbig))]
     by_cases hlo : a.getD i 0 < 128
     ·have e32 : ((shl64 y 7) ||| (((a.getD i 0) &&& (127 : UInt8)).toUInt64)).toUInt32 = UInt32.ofNat (y.toNat * 128 + (a.getD i 0).toNat % 128) := by
       apply UInt32.toNat_inj.1
       rw [UInt64.toNat_toUInt32, hy7]; simp
      rw [if_pos hlo, ite_t (decide_eq_true hlo), gd_pos (by unfold rmB; omega)]
      unfold pReadOid_j1
      rw [gd_pos (okI64 (by omega) (by omega)), e32]
      exact ih (i + 1) fu _ 0 false (by omega) (by omega) (by simp; omega) (by decide)
     ·rw [if_neg hlo, ite_f (decide_eq_false hlo)]
      unfold pReadOid_j1
      rw [gd_pos (okI64 (by omega) (by omega))]
      have := ih (i + 1) fu w ((shl64 y 7) ||| (((a.getD i 0) &&& (127 : UInt8)).toUInt64)) true (by omega) (by omega) hw (by rw [hy7]; omega)
      rw [hy7] at this
      exact this
   rw [pReadOid_l1, ite_t (decide_eq_true (by omega)), gd_pos (by omega), gd_pos (by omega), hd, pRd, Int.toNat_natCast]
   cases bg with
   | true =>
    rw [ite_f (by rfl)]
    by_cases h16 : 16 < w.length
    ·rw [ite_t (decide_eq_true (by omega)), if_pos (.inr h16)]; rfl
    ·rw [ite_f (decide_eq_false (by omega)), if_neg (by rintro (⟨h, _⟩ | h); cases h; exact h16 h)]
     exact hlast (by omega)
   | false =>
    rw [ite_t (by rfl)]
    by_cases h128 : a.getD i 0 = 128
    ·rw [ite_t (by rw [h128]; rfl), if_pos (.inl ⟨rfl, h128⟩)]; rfl
    ·rw [ite_f (beq_eq_false_iff_ne.2 h128)]
     by_cases h16 : 16 < w.length
     ·rw [ite_t (decide_eq_true (by omega)), if_pos (.inr h16)]; rfl
     ·rw [ite_f (decide_eq_false (by omega)), if_neg (by rintro (⟨_, h⟩ | h); exact h128 h; exact h16 h)]
      exact hlast (by omega)
theorem pReadOid_is {n : Nat} {a : List UInt8} (ha : a.length ≤ 1000) (hn : 2000 ≤ n) : pReadOid n a = some (pAll a) := by
 unfold pReadOid
 have := pReadOid_l1_is n ha a.length 0 n [] 0 false (by omega) (by omega) (by simp) (by decide)
 rw [List.drop_zero] at this
 exact this
theorem lsame_l1_is (n : Nat) {a b : List UInt32} (hab : a.length = b.length) (ha : a.length ≤ 1000) : ∀ (m i fu : Nat), i + m = a.length → m < fu → (∀ k, k < i → a.getD k 0 = b.getD k 0) → lsame_l1 n a b fu (i : Int) = some (a == b) := by
 intro m
 induction m with
 | zero =>
  intro i fu hi hf hk
  cases fu with
  | zero => omega
  | succ fu =>
   rw [lsame_l1, ite_f (decide_eq_false (by omega))]
   have : a = b := by
    apply List.ext_getElem hab
    intro k h1 h2
    have := hk k (by omega)
    rw [List.getD_eq_getElem?_getD, List.getElem?_eq_getElem h1, List.getD_eq_getElem?_getD, List.getElem?_eq_getElem h2] at this
    exact this
   subst this; simp
 | succ m ih =>
  intro i fu hi hf hk
  cases fu with
  | zero => omega
  | succ fu =>
   rw [lsame_l1, ite_t (decide_eq_true (by omega)), gd_pos (by omega), gd_pos (by omega), gd_pos (by omega), gd_pos (by omega), Int.toNat_natCast]
   by_cases h : a.getD i 0 = b.getD i 0
   ·rw [ite_f (by rw [h]; simp), gd_pos (okI64 (by omega) (by omega))]
    exact ih (i + 1) fu (by omega) (by omega) fun k hk' => by
     rcases Nat.lt_succ_iff_lt_or_eq.1 hk' with h1 | h1
     ·exact hk k h1
     ·rw [h1]; exact h
   ·rw [ite_t (by simpa using h)]
    have : a ≠ b := fun e => h (by rw [e])
    rw [beq_eq_false_iff_ne.2 this]
theorem lsame_is {n : Nat} (hn : 2000 ≤ n) (a b : List UInt32) (ha : a.length ≤ 1000) : lsame n a b = some (a == b) := by
 unfold lsame
 by_cases h : a.length = b.length
 ·rw [ite_f (by simp [h])]
  exact lsame_l1_is n h ha a.length 0 n (by omega) (by omega) (fun k hk => by omega)
 ·rw [ite_t (by simp; omega)]
  have : a ≠ b := fun e => h (by rw [e])
  rw [beq_eq_false_iff_ne.2 this]
end Go.Sx
end
section
namespace Go.Sx
open Go Go.RowKit Go.Ch Go.Proofs.Ytliilihbnhdemaa
theorem cmp_less' : ∀ a b : List UInt8, decide (Lib.compareBytes a b < (0 : Int)) = Op.bytesLess a b
 | [], [] => rfl
 | [], _ :: _ => by simp [Lib.compareBytes, Op.bytesLess]
 | _ :: _, [] => by simp [Lib.compareBytes, Op.bytesLess]
 | x :: a, y :: b => by
  have ih := cmp_less' a b
  unfold Lib.compareBytes Op.bytesLess
  by_cases h : x < y
  ·simp [h]
  ·by_cases h2 : y < x
   ·have : x ≠ y := fun e => UInt8.lt_irrefl y (by rw [e] at h2; exact h2)
    simp [h, h2, this]
   ·have : x = y := by
     have h3 := UInt8.not_lt.1 h
     have h4 := UInt8.not_lt.1 h2
     exact UInt8.le_antisymm h4 h3
    simp [h, this, ih]
theorem bl_cons (x y : UInt8) (a b : List UInt8) : Op.bytesLess (x :: a) (y :: b) = (decide (x.toNat < y.toNat) || (decide (x.toNat = y.toNat) && Op.bytesLess a b)) := by
 conv => lhs; unfold Op.bytesLess
 by_cases h : x.toNat < y.toNat
 ·have : x < y := UInt8.lt_iff_toNat_lt.2 h
  simp [this, h]
 ·have h1 : ¬ x < y := fun e => h (UInt8.lt_iff_toNat_lt.1 e)
  by_cases h2 : x = y
  ·subst h2; simp
  ·have h3 : x.toNat ≠ y.toNat := fun e => h2 (UInt8.toNat_inj.1 e)
   simp [h1, h2, h, h3]
theorem bl_irr : ∀ a : List UInt8, Op.bytesLess a a = false
 | [] => rfl
 | x :: a => by rw [bl_cons, bl_irr a]; simp
theorem bl_tr : ∀ a b c : List UInt8, Op.bytesLess b a = false → Op.bytesLess c b = false → Op.bytesLess c a = false
 | [], _, c, _, _ => by cases c <;> rfl
 | x :: a, [], c, h, _ => by simp [Op.bytesLess] at h
 | x :: a, y :: b, [], _, h => by simp [Op.bytesLess] at h
 | x :: a, y :: b, z :: c, h1, h2 => by
  rw [bl_cons] at h1 h2 ⊢
  simp only [Bool.or_eq_false_iff, Bool.and_eq_false_iff, decide_eq_false_iff_not] at h1 h2 ⊢
  refine ⟨by omega, ?_⟩
  by_cases e : z.toNat = x.toNat
  ·right
   have e1 : y.toNat = x.toNat := by omega
   have e2 : z.toNat = y.toNat := by omega
   exact bl_tr a b c (h1.2.resolve_left fun h => h e1) (h2.2.resolve_left fun h => h e2)
  ·exact .inl e
theorem bl_as : ∀ {a b : List UInt8}, Op.bytesLess a b = true → Op.bytesLess b a = false
 | [], [], h => by cases h
 | [], _ :: _, _ => rfl
 | _ :: _, [], h => by simp [Op.bytesLess] at h
 | x :: a, y :: b, h => by
  rw [bl_cons] at h ⊢
  simp only [Bool.or_eq_true, Bool.and_eq_true, decide_eq_true_eq] at h
  simp only [Bool.or_eq_false_iff, Bool.and_eq_false_iff, decide_eq_false_iff_not]
  rcases h with h | ⟨h, h2⟩
  ·exact ⟨by omega, .inl (by omega)⟩
  ·exact ⟨by omega, .inr (bl_as h2)⟩
def ltl (l : List (List UInt8)) (i j : Nat) : Bool := Op.bytesLess (l.getD i []) (l.getD j [])
theorem cmp_ltl (l : List (List UInt8)) (i j : Nat) : decide (Lib.compareBytes (l.getD i []) (l.getD j []) < (0 : Int)) = ltl l i j := cmp_less' _ _
def Sr (l : List (List UInt8)) (xs : List Nat) : Prop := xs.Pairwise fun x y => ltl l y x = false
theorem ltl_tr {l : List (List UInt8)} {a b c : Nat} (h1 : ltl l b a = false) (h2 : ltl l c b = false) : ltl l c a = false := bl_tr _ _ _ h1 h2
theorem ltl_as {l : List (List UInt8)} {a b : Nat} (h : ltl l a b = true) : ltl l b a = false := bl_as h
theorem get_mid (pre t : List Nat) (x : Nat) {p : Nat} (h : p = pre.length) : (pre ++ x :: t).getD p 0 = x := by
 subst h
 rw [List.getD_eq_getElem?_getD, List.getElem?_append_right (Nat.le_refl _), Nat.sub_self]; rfl
theorem set_mid (pre t : List Nat) (x y : Nat) {p : Nat} (h : p = pre.length) : (pre ++ x :: t).set p y = pre ++ y :: t := by
 subst h
 rw [List.set_append_right _ _ (Nat.le_refl _), Nat.sub_self]; rfl
theorem swp2 {pre mid post : List Nat} {x y p q : Nat} (hp : p = pre.length) (hq : q = pre.length + 1 + mid.length) :
  (((pre ++ x :: (mid ++ y :: post)).set p ((pre ++ x :: (mid ++ y :: post)).getD q 0)).set q ((pre ++ x :: (mid ++ y :: post)).getD p 0)) = pre ++ y :: (mid ++ x :: post) := by
 have e : ∀ z : Nat, ∀ t : List Nat, pre ++ z :: (mid ++ t) = (pre ++ z :: mid) ++ t := fun z t => by simp
 have hl : ∀ z : Nat, q = (pre ++ z :: mid).length := fun z => by simp; omega
 rw [get_mid pre _ x hp, set_mid pre _ x _ hp]
 rw [e x, get_mid (pre ++ x :: mid) post y (hl x)]
 rw [e y, set_mid (pre ++ y :: mid) post y x (hl y), ← e y]
theorem swp2' {pre mid post : List Nat} {x y p q : Nat} (hp : p = pre.length) (hq : q = pre.length + 1 + mid.length) :
  (((pre ++ x :: (mid ++ y :: post)).set q ((pre ++ x :: (mid ++ y :: post)).getD p 0)).set p ((pre ++ x :: (mid ++ y :: post)).getD q 0)) = pre ++ y :: (mid ++ x :: post) := by
 have e : ∀ z : Nat, ∀ t : List Nat, pre ++ z :: (mid ++ t) = (pre ++ z :: mid) ++ t := fun z t => by simp
 have hl : ∀ z : Nat, q = (pre ++ z :: mid).length := fun z => by simp; omega
 rw [get_mid pre _ x hp]
 rw [e x, get_mid (pre ++ x :: mid) post y (hl x), set_mid (pre ++ x :: mid) post y x (hl x), ← e x, set_mid pre _ x y hp]
theorem swap_l1 (n : Nat) (l : List (List UInt8)) (js : List Nat) (hj : js.length ≤ 100000) : ∀ (X Y pre mid post : List Nat) (fu a1 a2 a3 i : Nat), X.length = Y.length → X.length < fu → a1 + i = pre.length → a2 + i = pre.length + X.length + mid.length → a3 = i + X.length →
  js.length = pre.length + X.length + mid.length + Y.length + post.length →
  srSwap_l1 n l js (a1 : Int) (a2 : Int) (a3 : Int) fu (pre ++ (X ++ (mid ++ (Y ++ post)))) (i : Int) = some (pre ++ (Y ++ (mid ++ (X ++ post))))
 | _, _, _, _, _, 0, _, _, _, _, _, h, _, _, _, _ => by omega
 | [], [], pre, mid, post, fu + 1, a1, a2, a3, i, _, _, _, _, h3, _ => by
  rw [srSwap_l1, ite_f (decide_eq_false (by simp at h3; omega))]
 | [], _ :: _, _, _, _, _ + 1, _, _, _, _, h, _, _, _, _, _ => by simp at h
 | _ :: _, [], _, _, _, _ + 1, _, _, _, _, h, _, _, _, _, _ => by simp at h
 | x :: X, y :: Y, pre, mid, post, fu + 1, a1, a2, a3, i, hl, hf, h1, h2, h3, h4 => by
  simp only [List.length_cons] at hl hf h2 h3 h4
  rw [srSwap_l1, ite_t (decide_eq_true (by omega)), gd_pos (okI64 (by omega) (by omega)), gd_pos (okI64 (by omega) (by omega)), gd_pos (okI64 (by omega) (by omega)), gd_pos (by omega), gd_pos (by omega), gd_pos (okI64 (by omega) (by omega)), gd_pos (by omega), gd_pos (by omega), gd_pos (by omega), gd_pos (by omega), gd_pos (by omega), gd_pos (by omega), gd_pos (okI64 (by omega) (by omega))]
  have e : pre ++ ((x :: X) ++ (mid ++ ((y :: Y) ++ post))) = pre ++ x :: ((X ++ mid) ++ y :: (Y ++ post)) := by simp
  rw [show ((a1 : Int) + (i : Int)).toNat = a1 + i by omega, show ((a2 : Int) + (i : Int)).toNat = a2 + i by omega, e, swp2 h1 (by simp; omega)]
  have := swap_l1 n l js hj X Y (pre ++ [y]) (mid ++ [x]) post fu a1 a2 a3 (i + 1) (by omega) (by omega) (by simp; omega) (by simp; omega) (by omega) (by simp; omega)
  rw [show ((i : Int) + 1) = ((i + 1 : Nat) : Int) by omega]
  simp only [List.append_assoc, List.singleton_append, List.cons_append, List.nil_append] at this ⊢
  exact this
theorem swap_is {n : Nat} (l : List (List UInt8)) {X Y pre mid post : List Nat} {a1 a2 a3 : Int} (hl : X.length = Y.length) (hf : X.length < n) (h1 : a1 = (pre.length : Int)) (h2 : a2 = ((pre.length + X.length + mid.length : Nat) : Int)) (h3 : a3 = (X.length : Int))
  (h4 : pre.length + X.length + mid.length + Y.length + post.length ≤ 100000) :
  srSwap n l (pre ++ (X ++ (mid ++ (Y ++ post)))) a1 a2 a3 = some (pre ++ (Y ++ (mid ++ (X ++ post)))) := by
 unfold srSwap
 subst h1; subst h2; subst h3
 exact swap_l1 n l _ (by simp; omega) X Y pre mid post n pre.length _ X.length 0 hl hf rfl rfl (by omega) (by simp; omega)
theorem rot_l1 (n : Nat) (l : List (List UInt8)) (js : List Nat) : ∀ (fu : Nat) (X Y P S : List Nat) (a2 : Int), X ≠ [] → Y ≠ [] → X.length + Y.length ≤ fu → X.length + Y.length < n → a2 = ((P.length + X.length : Nat) : Int) → P.length + X.length + Y.length + S.length ≤ 100000 →
  srRot_l1 n l js a2 fu (P ++ (X ++ (Y ++ S))) (X.length : Int) (Y.length : Int) = some (P ++ (Y ++ (X ++ S)))
 | 0, X, Y, P, S, a2, hX, hY, h, _, _, _ => by have := List.length_pos_iff.2 hX; omega
 | fu + 1, X, Y, P, S, a2, hX, hY, h, hn, ha, h4 => by
  have hx := List.length_pos_iff.2 hX
  have hy := List.length_pos_iff.2 hY
  subst ha
  rw [srRot_l1]
  by_cases hxy : X.length = Y.length
  ·rw [ite_f (by rw [hxy]; exact bne_self_eq_false _)]
   unfold srRot_j1
   rw [gd_pos (okI64 (by omega) (by omega))]
   have := swap_is (n := n) l (X := X) (Y := Y) (pre := P) (mid := []) (post := S) (a1 := ((P.length + X.length : Nat) : Int) - (X.length : Int)) (a2 := ((P.length + X.length : Nat) : Int)) (a3 := (X.length : Int)) hxy (by omega) (by omega) (by simp) rfl (by simp; omega)
   rw [List.nil_append, List.nil_append] at this
   rw [this, Option.bind_some]
  ·rw [ite_t (by rw [bne_iff_ne]; omega)]
   by_cases hgt : Y.length < X.length
   ·rw [ite_t (decide_eq_true (by omega)), gd_pos (okI64 (by omega) (by omega))]
    obtain ⟨X1, X2, rfl, hl⟩ : ∃ X1 X2, X = X1 ++ X2 ∧ X1.length = Y.length := ⟨X.take Y.length, X.drop Y.length, (List.take_append_drop _ _).symm, by rw [List.length_take]; omega⟩
    rw [List.length_append] at *
    have := swap_is (n := n) l (X := X1) (Y := Y) (pre := P) (mid := X2) (post := S) (a1 := ((P.length + (X1.length + X2.length) : Nat) : Int) - ((X1.length + X2.length : Nat) : Int)) (a2 := ((P.length + (X1.length + X2.length) : Nat) : Int)) (a3 := (Y.length : Int)) hl (by omega) (by omega) (by omega) (by omega) (by omega)
    rw [List.append_assoc X1]
    rw [this, Option.bind_some, gd_pos (okI64 (by omega) (by omega))]
    have ih := rot_l1 n l js fu X2 X1 (P ++ Y) S ((P.length + (X1.length + X2.length) : Nat) : Int) (List.length_pos_iff.1 (by omega)) (List.length_pos_iff.1 (by omega)) (by omega) (by omega) (by rw [List.length_append]; omega) (by rw [List.length_append]; omega)
    rw [show ((X1.length + X2.length : Nat) : Int) - (Y.length : Int) = (X2.length : Int) by omega, show (Y.length : Int) = (X1.length : Int) by omega]
    simp only [List.append_assoc] at ih ⊢
    exact ih
   ·rw [ite_f (decide_eq_false (by omega)), gd_pos (okI64 (by omega) (by omega)), gd_pos (okI64 (by omega) (by omega)), gd_pos (okI64 (by omega) (by omega))]
    obtain ⟨Y1, Y2, rfl, hl⟩ : ∃ Y1 Y2, Y = Y1 ++ Y2 ∧ X.length = Y2.length := ⟨Y.take (Y.length - X.length), Y.drop (Y.length - X.length), (List.take_append_drop _ _).symm, by rw [List.length_drop]; omega⟩
    rw [List.length_append] at *
    have := swap_is (n := n) l (X := X) (Y := Y2) (pre := P) (mid := Y1) (post := S) (a1 := ((P.length + X.length : Nat) : Int) - (X.length : Int)) (a2 := ((P.length + X.length : Nat) : Int) + ((Y1.length + Y2.length : Nat) : Int) - (X.length : Int)) (a3 := (X.length : Int)) hl (by omega) (by omega) (by omega) rfl (by omega)
    rw [List.append_assoc Y1]
    rw [this, Option.bind_some, gd_pos (okI64 (by omega) (by omega))]
    have ih := rot_l1 n l js fu Y2 Y1 P (X ++ S) ((P.length + X.length : Nat) : Int) (List.length_pos_iff.1 (by omega)) (List.length_pos_iff.1 (by omega)) (by omega) (by omega) (by omega) (by rw [List.length_append]; omega)
    rw [show ((Y1.length + Y2.length : Nat) : Int) - (X.length : Int) = (Y1.length : Int) by omega, show (X.length : Int) = (Y2.length : Int) by omega]
    simp only [List.append_assoc] at ih ⊢
    exact ih
theorem rot_is {n : Nat} (l : List (List UInt8)) {X Y P S : List Nat} {a1 a2 a3 : Int} (hX : X ≠ []) (hY : Y ≠ []) (hn : X.length + Y.length < n) (h1 : a1 = (P.length : Int)) (h2 : a2 = ((P.length + X.length : Nat) : Int)) (h3 : a3 = ((P.length + X.length + Y.length : Nat) : Int))
  (h4 : P.length + X.length + Y.length + S.length ≤ 100000) : srRot n l (P ++ (X ++ (Y ++ S))) a1 a2 a3 = some (P ++ (Y ++ (X ++ S))) := by
 unfold srRot
 rw [gd_pos (okI64 (by omega) (by omega)), gd_pos (okI64 (by omega) (by omega))]
 have := rot_l1 n l (P ++ (X ++ (Y ++ S))) n X Y P S a2 hX hY (by omega) hn h2 h4
 rw [show a2 - a1 = (X.length : Int) by omega, show a3 - a2 = (Y.length : Int) by omega]
 exact this
end Go.Sx
end
section
namespace Go.Sx
open Go Go.RowKit Go.Ch Go.Proofs.Ytliilihbnhdemaa
theorem half_is {s : Nat} {i : Int} (hi : i = (s : Int)) (h : s < 4000000000000000000) : IntKind.i64.wrap (((shr64 (UInt64.ofInt i) 1).toNat : Nat) : Int) = ((s / 2 : Nat) : Int) := by
 subst hi
 have e : (UInt64.ofInt (s : Int)).toNat = s := by
  unfold UInt64.ofInt; simp; omega
 have e2 : (shr64 (UInt64.ofInt (s : Int)) 1).toNat = s / 2 := by
  unfold shr64
  rw [if_pos (by decide), UInt64.toNat_shiftRight, e]
  show s >>> 1 = s / 2
  rw [Nat.shiftRight_eq_div_pow]
 rw [e2, IntKind.wrap_i64]
 omega
theorem get_in {P A T : List Nat} {k t : Nat} (hk : k = P.length + t) (ht : t < A.length) : (P ++ (A ++ T)).getD k 0 = A.getD t 0 := by
 subst hk
 rw [List.getD_eq_getElem?_getD, List.getD_eq_getElem?_getD, List.getElem?_append_right (by omega), Nat.add_sub_cancel_left, List.getElem?_append_left ht]
theorem Sr.at {l : List (List UInt8)} {xs : List Nat} (h : Sr l xs) {s t : Nat} (hst : s ≤ t) (ht : t < xs.length) : ltl l (xs.getD t 0) (xs.getD s 0) = false := by
 by_cases e : s = t
 ·subst e; exact bl_irr _
 ·have := List.pairwise_iff_getElem.1 h s t (by omega) ht (by omega)
  rw [List.getD_eq_getElem?_getD, List.getD_eq_getElem?_getD, List.getElem?_eq_getElem ht, List.getElem?_eq_getElem (show s < xs.length by omega)]
  exact this
theorem mem_at {xs : List Nat} {x : Nat} (h : x ∈ xs) : ∃ t, t < xs.length ∧ xs.getD t 0 = x := by
 obtain ⟨t, ht, e⟩ := List.getElem_of_mem h
 exact ⟨t, ht, by rw [List.getD_eq_getElem?_getD, List.getElem?_eq_getElem ht]; exact e⟩
abbrev MrT := List (List UInt8) → List Nat → Int → Int → Int → Option (List Nat)
theorem bs_l2 (n : Nat) (rc : MrT) (l : List (List UInt8)) (js : List Nat) (hj : js.length ≤ 100000) {a : Nat} (ha : a < js.length) (lo hi : Nat) (hhi : hi ≤ js.length)
  (hm : ∀ s t, lo ≤ s → s ≤ t → t < hi → ltl l (js.getD t 0) (js.getD a 0) = true → ltl l (js.getD s 0) (js.getD a 0) = true) :
  ∀ (fu x y : Nat), lo ≤ x → x ≤ y → y ≤ hi → y - x < fu → (∀ t, lo ≤ t → t < x → ltl l (js.getD t 0) (js.getD a 0) = true) → (∀ t, y ≤ t → t < hi → ltl l (js.getD t 0) (js.getD a 0) = false) →
   ∃ i, lo ≤ i ∧ i ≤ hi ∧ (∀ t, lo ≤ t → t < i → ltl l (js.getD t 0) (js.getD a 0) = true) ∧ (∀ t, i ≤ t → t < hi → ltl l (js.getD t 0) (js.getD a 0) = false) ∧ srMerge_l2 n rc l js (a : Int) fu (x : Int) (y : Int) = srMerge_j1 n rc l js (a : Int) (i : Int)
 | 0, x, y, _, _, _, h, _, _ => by omega
 | fu + 1, x, y, h1, h2, h3, h, hp, hq => by
  rw [srMerge_l2]
  by_cases hxy : x < y
  ·have hh := half_is (s := x + y) (i := (x : Int) + (y : Int)) (by omega) (by omega)
   rw [ite_t (decide_eq_true (by omega)), gd_pos (okI64 (by omega) (by omega)), gd_pos (by decide), hh, gd_pos (by omega), gd_pos (by omega), gd_pos (by omega), gd_pos (by omega), cmp_ltl]
   simp only [Int.toNat_natCast]
   cases hc : ltl l (js.getD ((x + y) / 2) 0) (js.getD a 0) with
   | true =>
    rw [cond_true, gd_pos (okI64 (by omega) (by omega)), show (((x + y) / 2 : Nat) : Int) + 1 = (((x + y) / 2 + 1 : Nat) : Int) by omega]
    exact bs_l2 n rc l js hj ha lo hi hhi hm fu ((x + y) / 2 + 1) y (by omega) (by omega) h3 (by omega) (fun t t1 t2 => hm t ((x + y) / 2) t1 (by omega) (by omega) hc) hq
   | false =>
    rw [cond_false]
    refine bs_l2 n rc l js hj ha lo hi hhi hm fu x ((x + y) / 2) h1 (by omega) (by omega) (by omega) hp fun t t1 t2 => ?_
    cases ht : ltl l (js.getD t 0) (js.getD a 0) with
    | false => rfl
    | true => rw [hm ((x + y) / 2) t (by omega) t1 t2 ht] at hc; cases hc
  ·obtain rfl : x = y := by omega
   rw [ite_f (decide_eq_false (by omega))]
   exact ⟨x, h1, h3, hp, hq, rfl⟩
theorem bs_l4 (n : Nat) (rc : MrT) (l : List (List UInt8)) (js : List Nat) (hj : js.length ≤ 100000) {m : Nat} (hmj : m < js.length) (lo hi : Nat) (hhi : hi ≤ js.length)
  (hm : ∀ s t, lo ≤ s → s ≤ t → t < hi → ltl l (js.getD m 0) (js.getD t 0) = false → ltl l (js.getD m 0) (js.getD s 0) = false) :
  ∀ (fu x y : Nat), lo ≤ x → x ≤ y → y ≤ hi → y - x < fu → (∀ t, lo ≤ t → t < x → ltl l (js.getD m 0) (js.getD t 0) = false) → (∀ t, y ≤ t → t < hi → ltl l (js.getD m 0) (js.getD t 0) = true) →
   ∃ i, lo ≤ i ∧ i ≤ hi ∧ (∀ t, lo ≤ t → t < i → ltl l (js.getD m 0) (js.getD t 0) = false) ∧ (∀ t, i ≤ t → t < hi → ltl l (js.getD m 0) (js.getD t 0) = true) ∧ srMerge_l4 n rc l js (m : Int) fu (x : Int) (y : Int) = srMerge_j2 n rc l js (m : Int) (i : Int)
 | 0, x, y, _, _, _, h, _, _ => by omega
 | fu + 1, x, y, h1, h2, h3, h, hp, hq => by
  rw [srMerge_l4]
  by_cases hxy : x < y
  ·have hh := half_is (s := x + y) (i := (x : Int) + (y : Int)) (by omega) (by omega)
   rw [ite_t (decide_eq_true (by omega)), gd_pos (okI64 (by omega) (by omega)), gd_pos (by decide), hh, gd_pos (by omega), gd_pos (by omega), gd_pos (by omega), gd_pos (by omega), cmp_ltl]
   simp only [Int.toNat_natCast]
   cases hc : ltl l (js.getD m 0) (js.getD ((x + y) / 2) 0) with
   | false =>
    rw [ite_t (by rfl), gd_pos (okI64 (by omega) (by omega)), show (((x + y) / 2 : Nat) : Int) + 1 = (((x + y) / 2 + 1 : Nat) : Int) by omega]
    exact bs_l4 n rc l js hj hmj lo hi hhi hm fu ((x + y) / 2 + 1) y (by omega) (by omega) h3 (by omega) (fun t t1 t2 => hm t ((x + y) / 2) t1 (by omega) (by omega) hc) hq
   | true =>
    rw [ite_f (by rfl)]
    refine bs_l4 n rc l js hj hmj lo hi hhi hm fu x ((x + y) / 2) h1 (by omega) (by omega) (by omega) hp fun t t1 t2 => ?_
    cases ht : ltl l (js.getD m 0) (js.getD t 0) with
    | true => rfl
    | false => rw [hm ((x + y) / 2) t (by omega) t1 t2 ht] at hc; cases hc
  ·obtain rfl : x = y := by omega
   rw [ite_f (decide_eq_false (by omega))]
   exact ⟨x, h1, h3, hp, hq, rfl⟩
theorem bs_l5 (n : Nat) (rc : MrT) (l : List (List UInt8)) (js : List Nat) (hj : js.length ≤ 100000) {a m b : Nat} (N : Nat) (hN : N = (a + b) / 2 + m) (hab : a + b < 1000000) (hm0 : m < 1000000) (lo hi : Nat) (hhi : hi ≤ js.length) (hlo : N ≤ js.length + lo) (hN1 : hi + 1 ≤ N)
  (hm : ∀ s t, lo ≤ s → s ≤ t → t < hi → ltl l (js.getD (N - 1 - t) 0) (js.getD t 0) = false → ltl l (js.getD (N - 1 - s) 0) (js.getD s 0) = false) :
  ∀ (fu x y : Nat), lo ≤ x → x ≤ y → y ≤ hi → y - x < fu → (∀ t, lo ≤ t → t < x → ltl l (js.getD (N - 1 - t) 0) (js.getD t 0) = false) → (∀ t, y ≤ t → t < hi → ltl l (js.getD (N - 1 - t) 0) (js.getD t 0) = true) →
   ∃ i, lo ≤ i ∧ i ≤ hi ∧ (∀ t, lo ≤ t → t < i → ltl l (js.getD (N - 1 - t) 0) (js.getD t 0) = false) ∧ (∀ t, i ≤ t → t < hi → ltl l (js.getD (N - 1 - t) 0) (js.getD t 0) = true) ∧ srMerge_l5 n rc l js (a : Int) (m : Int) (b : Int) fu (x : Int) (y : Int) = srMerge_j4 n rc l js (a : Int) (m : Int) (b : Int) (i : Int)
 | 0, x, y, _, _, _, h, _, _ => by omega
 | fu + 1, x, y, h1, h2, h3, h, hp, hq => by
  rw [srMerge_l5]
  by_cases hxy : x < y
  ·have hh := half_is (s := x + y) (i := (x : Int) + (y : Int)) (by omega) (by omega)
   have hh2 := half_is (s := a + b) (i := (a : Int) + (b : Int)) (by omega) (by omega)
   have hc0 : (((((a + b) / 2 : Nat) : Int) + (m : Int)) - 1) - (((x + y) / 2 : Nat) : Int) = ((N - 1 - (x + y) / 2 : Nat) : Int) := by omega
   rw [ite_t (decide_eq_true (by omega)), gd_pos (okI64 (by omega) (by omega)), gd_pos (by decide), hh, hh2, hc0, gd_pos (okI64 (by omega) (by omega)), gd_pos (by omega), gd_pos (by omega), gd_pos (by omega), gd_pos (by omega), cmp_ltl]
   simp only [Int.toNat_natCast]
   cases hc : ltl l (js.getD (N - 1 - (x + y) / 2) 0) (js.getD ((x + y) / 2) 0) with
   | false =>
    rw [ite_t (by rfl), gd_pos (okI64 (by omega) (by omega)), show (((x + y) / 2 : Nat) : Int) + 1 = (((x + y) / 2 + 1 : Nat) : Int) by omega]
    exact bs_l5 n rc l js hj N hN hab hm0 lo hi hhi hlo hN1 hm fu ((x + y) / 2 + 1) y (by omega) (by omega) h3 (by omega) (fun t t1 t2 => hm t ((x + y) / 2) t1 (by omega) (by omega) hc) hq
   | true =>
    rw [ite_f (by rfl)]
    refine bs_l5 n rc l js hj N hN hab hm0 lo hi hhi hlo hN1 hm fu x ((x + y) / 2) h1 (by omega) (by omega) (by omega) hp fun t t1 t2 => ?_
    cases ht : ltl l (js.getD (N - 1 - t) 0) (js.getD t 0) with
    | true => rfl
    | false => rw [hm ((x + y) / 2) t (by omega) t1 t2 ht] at hc; cases hc
  ·obtain rfl : x = y := by omega
   rw [ite_f (decide_eq_false (by omega))]
   exact ⟨x, h1, h3, hp, hq, rfl⟩
theorem ins_right (n : Nat) (rc : MrT) (l : List (List UInt8)) (js : List Nat) (hj : js.length ≤ 100000) (x : Nat) : ∀ (B P T : List Nat) (fu : Nat) (i : Int), B.length < fu → i = ((P.length + 1 + B.length : Nat) : Int) → js.length = P.length + 1 + B.length + T.length →
  srMerge_l1 n rc l js i fu (P ++ x :: (B ++ T)) (P.length : Int) = some (P ++ (B ++ x :: T))
 | _, _, _, 0, _, h, _, _ => by omega
 | [], P, T, fu + 1, i, h, hi, _ => by
  simp only [List.length_nil] at hi
  rw [srMerge_l1, gd_pos (okI64 (by omega) (by omega)), ite_f (decide_eq_false (by omega))]; rfl
 | y :: B, P, T, fu + 1, i, h, hi, hl => by
  simp only [List.length_cons] at h hi hl
  rw [srMerge_l1, gd_pos (okI64 (by omega) (by omega)), ite_t (decide_eq_true (by omega)), gd_pos (okI64 (by omega) (by omega)), gd_pos (okI64 (by omega) (by omega)), gd_pos (by omega), gd_pos (by omega), gd_pos (by omega), gd_pos (by omega), gd_pos (by omega), gd_pos (by omega), gd_pos (by omega), gd_pos (by omega), gd_pos (okI64 (by omega) (by omega))]
  rw [show ((P.length : Int) + 1).toNat = P.length + 1 by omega, show ((P.length : Int)).toNat = P.length by omega]
  have e := swp2 (pre := P) (mid := []) (post := B ++ T) (x := x) (y := y) (p := P.length) (q := P.length + 1) rfl rfl
  rw [List.nil_append, List.nil_append] at e
  rw [show P ++ x :: (y :: B ++ T) = P ++ x :: y :: (B ++ T) from rfl, e]
  have ih := ins_right n rc l js hj x B (P ++ [y]) T fu i (by omega) (by rw [List.length_append, List.length_singleton]; omega) (by rw [List.length_append, List.length_singleton]; omega)
  rw [show (((P ++ [y]).length : Nat) : Int) = (P.length : Int) + 1 by rw [List.length_append, List.length_singleton]; omega] at ih
  simp only [List.append_assoc, List.singleton_append, List.cons_append, List.nil_append] at ih ⊢
  exact ih
theorem ins_left (n : Nat) (rc : MrT) (l : List (List UInt8)) (js : List Nat) (hj : js.length ≤ 100000) (x : Nat) : ∀ (k : Nat) (A P T : List Nat) (fu : Nat) (i : Int), A.length = k → k < fu → i = (P.length : Int) → js.length = P.length + 1 + A.length + T.length →
  srMerge_l3 n rc l js i fu (P ++ (A ++ x :: T)) ((P.length + A.length : Nat) : Int) = some (P ++ x :: (A ++ T))
 | _, _, _, _, 0, _, _, h, _, _ => by omega
 | 0, A, P, T, fu + 1, i, hk, _, hi, _ => by
  obtain rfl := List.eq_nil_of_length_eq_zero hk
  simp only [List.length_nil]
  rw [srMerge_l3, ite_f (decide_eq_false (by omega))]; rfl
 | k + 1, A, P, T, fu + 1, i, hk, h, hi, hl => by
  obtain ⟨A', y, rfl⟩ : ∃ A' y, A = A' ++ [y] := by
   have hne : A ≠ [] := by rintro rfl; simp at hk
   exact ⟨A.dropLast, A.getLast hne, (List.dropLast_concat_getLast hne).symm⟩
  rw [List.length_append, List.length_singleton] at hk hl ⊢
  rw [srMerge_l3, ite_t (decide_eq_true (by omega)), gd_pos (okI64 (by omega) (by omega)), gd_pos (okI64 (by omega) (by omega)), gd_pos (by omega), gd_pos (by omega), gd_pos (by omega), gd_pos (by omega), gd_pos (by omega), gd_pos (by omega), gd_pos (by omega), gd_pos (by omega), gd_pos (okI64 (by omega) (by omega))]
  rw [show (((P.length + (A'.length + 1) : Nat) : Int) - 1).toNat = P.length + A'.length by omega, show (((P.length + (A'.length + 1) : Nat) : Int)).toNat = P.length + A'.length + 1 by omega]
  have e := swp2' (pre := P ++ A') (mid := []) (post := T) (x := y) (y := x) (p := P.length + A'.length) (q := P.length + A'.length + 1) (by simp) (by simp)
  rw [List.nil_append, List.nil_append] at e
  rw [show P ++ (A' ++ [y] ++ x :: T) = (P ++ A') ++ y :: x :: T by simp, e]
  have ih := ins_left n rc l js hj x k A' P (y :: T) fu i (by omega) (by omega) hi (by rw [List.length_cons]; omega)
  rw [show (((P.length + (A'.length + 1) : Nat) : Int) - 1) = ((P.length + A'.length : Nat) : Int) by omega, show (P ++ A') ++ x :: y :: T = P ++ (A' ++ x :: y :: T) by simp, ih]
  simp
end Go.Sx
end
section
namespace Go.Sx
open Go Go.RowKit Go.Ch Go.Proofs.Ytliilihbnhdemaa
theorem Sr_app {l : List (List UInt8)} {X Y : List Nat} : Sr l (X ++ Y) ↔ Sr l X ∧ Sr l Y ∧ ∀ x ∈ X, ∀ y ∈ Y, ltl l y x = false := List.pairwise_append
theorem cut_at (B : List Nat) (k : Nat) (h : k ≤ B.length) : ∃ B1 B2, B = B1 ++ B2 ∧ B1.length = k := ⟨B.take k, B.drop k, (List.take_append_drop _ _).symm, by rw [List.length_take]; omega⟩
theorem merge_one {l : List (List UInt8)} {n : Nat} (rc : MrT) {x : Nat} {B P S : List Nat} (sB : Sr l B) (hn : B.length + 200 ≤ n) (h4 : P.length + 1 + B.length + S.length ≤ 100000) :
  ∃ C, srMerge_l2 n rc l (P ++ ([x] ++ (B ++ S))) (P.length : Int) n ((P.length + 1 : Nat) : Int) ((P.length + 1 + B.length : Nat) : Int) = some (P ++ (C ++ S)) ∧ C.Perm ([x] ++ B) ∧ Sr l C := by
 have hjl : (P ++ ([x] ++ (B ++ S))).length = P.length + 1 + B.length + S.length := by simp; omega
 have gx : (P ++ ([x] ++ (B ++ S))).getD P.length 0 = x := get_in (A := [x]) (t := 0) rfl (by simp)
 have gB : ∀ t, t < B.length → (P ++ ([x] ++ (B ++ S))).getD (P.length + 1 + t) 0 = B.getD t 0 := fun t ht => by
  rw [← List.append_assoc P]
  exact get_in (by simp) ht
 obtain ⟨i, i1, i2, i3, i4, hi⟩ := bs_l2 n rc l (P ++ ([x] ++ (B ++ S))) (by omega) (a := P.length) (by omega) (P.length + 1) (P.length + 1 + B.length) (by omega) (fun s t s1 st t1 ht => by
  obtain ⟨s', rfl⟩ : ∃ s', s = P.length + 1 + s' := ⟨s - (P.length + 1), by omega⟩
  obtain ⟨t', rfl⟩ : ∃ t', t = P.length + 1 + t' := ⟨t - (P.length + 1), by omega⟩
  rw [gx, gB _ (by omega)] at ht ⊢
  cases hs : ltl l (B.getD s' 0) x with
  | true => rfl
  | false => rw [ltl_tr hs (sB.at (by omega) (by omega))] at ht; cases ht) n (P.length + 1) (P.length + 1 + B.length) (Nat.le_refl _) (by omega) (Nat.le_refl _) (by omega) (fun t t1 t2 => by omega) (fun t t1 t2 => by omega)
 rw [hi]
 obtain ⟨B1, B2, rfl, hl1⟩ := cut_at B (i - (P.length + 1)) (by omega)
 obtain ⟨s1, s2, s3⟩ := Sr_app.1 sB
 have lB : (B1 ++ B2).length = B1.length + B2.length := List.length_append
 have q1 : ∀ y ∈ B1, ltl l y x = true := fun y hy => by
  obtain ⟨t, ht, rfl⟩ := mem_at hy
  have := i3 (P.length + 1 + t) (by omega) (by omega)
  rw [gx, gB t (by omega)] at this
  rw [List.getD_eq_getElem?_getD, List.getElem?_append_left ht, ← List.getD_eq_getElem?_getD] at this
  exact this
 have q2 : ∀ y ∈ B2, ltl l y x = false := fun y hy => by
  obtain ⟨t, ht, rfl⟩ := mem_at hy
  have := i4 (P.length + 1 + (B1.length + t)) (by omega) (by omega)
  rw [gx, gB _ (by omega)] at this
  rw [List.getD_eq_getElem?_getD, List.getElem?_append_right (by omega), Nat.add_sub_cancel_left, ← List.getD_eq_getElem?_getD] at this
  exact this
 refine ⟨B1 ++ x :: B2, ?_, ?_, ?_⟩
 ·unfold srMerge_j1
  have := ins_right n rc l (P ++ ([x] ++ ((B1 ++ B2) ++ S))) (by omega) x B1 P (B2 ++ S) n (i : Int) (by omega) (by omega) (by rw [hjl]; simp only [List.length_append]; omega)
  simp only [List.append_assoc, List.singleton_append, List.cons_append, List.nil_append] at this ⊢
  exact this
 ·rw [List.singleton_append]
  exact List.perm_middle
 ·rw [Sr_app]
  refine ⟨s1, List.pairwise_cons.2 ⟨q2, s2⟩, fun y hy z hz => ?_⟩
  rcases List.mem_cons.1 hz with rfl | hz
  ·exact ltl_as (q1 y hy)
  ·exact s3 y hy z hz
theorem merge_last {l : List (List UInt8)} {n : Nat} (rc : MrT) {x : Nat} {A P S : List Nat} (sA : Sr l A) (hn : A.length + 200 ≤ n) (h4 : P.length + A.length + 1 + S.length ≤ 100000) :
  ∃ C, srMerge_l4 n rc l (P ++ (A ++ ([x] ++ S))) ((P.length + A.length : Nat) : Int) n (P.length : Int) ((P.length + A.length : Nat) : Int) = some (P ++ (C ++ S)) ∧ C.Perm (A ++ [x]) ∧ Sr l C := by
 have hjl : (P ++ (A ++ ([x] ++ S))).length = P.length + A.length + 1 + S.length := by simp; omega
 have gx : (P ++ (A ++ ([x] ++ S))).getD (P.length + A.length) 0 = x := by
  rw [← List.append_assoc P]
  exact get_in (A := [x]) (t := 0) (by simp) (by simp)
 have gA : ∀ t, t < A.length → (P ++ (A ++ ([x] ++ S))).getD (P.length + t) 0 = A.getD t 0 := fun t ht => get_in rfl ht
 obtain ⟨i, i1, i2, i3, i4, hi⟩ := bs_l4 n rc l (P ++ (A ++ ([x] ++ S))) (by omega) (m := P.length + A.length) (by omega) P.length (P.length + A.length) (by omega) (fun s t s1 st t1 ht => by
  obtain ⟨s', rfl⟩ : ∃ s', s = P.length + s' := ⟨s - P.length, by omega⟩
  obtain ⟨t', rfl⟩ : ∃ t', t = P.length + t' := ⟨t - P.length, by omega⟩
  rw [gx, gA _ (by omega)] at ht ⊢
  exact ltl_tr (sA.at (by omega) (by omega)) ht) n P.length (P.length + A.length) (Nat.le_refl _) (by omega) (Nat.le_refl _) (by omega) (fun t t1 t2 => by omega) (fun t t1 t2 => by omega)
 rw [hi]
 obtain ⟨A1, A2, rfl, hl1⟩ := cut_at A (i - P.length) (by omega)
 obtain ⟨s1, s2, s3⟩ := Sr_app.1 sA
 have lA : (A1 ++ A2).length = A1.length + A2.length := List.length_append
 have q1 : ∀ y ∈ A1, ltl l x y = false := fun y hy => by
  obtain ⟨t, ht, rfl⟩ := mem_at hy
  have := i3 (P.length + t) (by omega) (by omega)
  rw [gx, gA t (by omega)] at this
  rw [List.getD_eq_getElem?_getD, List.getElem?_append_left ht, ← List.getD_eq_getElem?_getD] at this
  exact this
 have q2 : ∀ y ∈ A2, ltl l x y = true := fun y hy => by
  obtain ⟨t, ht, rfl⟩ := mem_at hy
  have := i4 (P.length + (A1.length + t)) (by omega) (by omega)
  rw [gx, gA _ (by omega)] at this
  rw [List.getD_eq_getElem?_getD, List.getElem?_append_right (by omega), Nat.add_sub_cancel_left, ← List.getD_eq_getElem?_getD] at this
  exact this
 refine ⟨A1 ++ x :: A2, ?_, ?_, ?_⟩
 ·unfold srMerge_j2
  have := ins_left n rc l (P ++ ((A1 ++ A2) ++ ([x] ++ S))) (by omega) x A2.length A2 (P ++ A1) S n (i : Int) rfl (by omega) (by rw [List.length_append]; omega) (by rw [hjl]; simp only [List.length_append]; omega)
  rw [List.length_append, show P.length + A1.length + A2.length = P.length + (A1 ++ A2).length by rw [lA]; omega] at this
  simp only [List.append_assoc, List.singleton_append, List.cons_append, List.nil_append] at this ⊢
  exact this
 ·exact (List.perm_middle.trans (List.perm_append_singleton x (A1 ++ A2)).symm)
 ·rw [Sr_app]
  refine ⟨s1, List.pairwise_cons.2 ⟨fun y hy => ltl_as (q2 y hy), s2⟩, fun y hy z hz => ?_⟩
  rcases List.mem_cons.1 hz with rfl | hz
  ·exact q1 y hy
  ·exact s3 y hy z hz
def MI (l : List (List UInt8)) (k : Nat) (rc : MrT) : Prop := ∀ (A B P S : List Nat) (a m b : Int), A ≠ [] → B ≠ [] → Sr l A → Sr l B → A.length + B.length + 200 ≤ k → a = (P.length : Int) → m = ((P.length + A.length : Nat) : Int) → b = ((P.length + A.length + B.length : Nat) : Int) →
 P.length + A.length + B.length + S.length ≤ 100000 → ∃ C, rc l (P ++ (A ++ (B ++ S))) a m b = some (P ++ (C ++ S)) ∧ C.Perm (A ++ B) ∧ Sr l C
abbrev hlf (i : Int) : Int := IntKind.i64.wrap (((shr64 (UInt64.ofInt i) 1).toNat : Nat) : Int)
theorem merge_lo {l : List (List UInt8)} {n k : Nat} {rc : MrT} (ih : MI l k rc) {A1 B1 D P js : List Nat} {a m b i : Int} {M : Nat} (hh : hlf (a + b) = (M : Int)) (ha : a = (P.length : Int)) (hi : i = ((P.length + A1.length : Nat) : Int)) (hM : M = P.length + A1.length + B1.length)
  (s1 : Sr l A1) (s2 : Sr l B1) (hk : A1.length + B1.length + 200 ≤ k) (hD : P.length + A1.length + B1.length + D.length ≤ 100000) :
  ∃ C1, srMerge_j5 n rc l js a m b i (P ++ (A1 ++ (B1 ++ D))) = srMerge_j6 n rc l js a m b i (P ++ (C1 ++ D)) ∧ C1.Perm (A1 ++ B1) ∧ Sr l C1 := by
 unfold srMerge_j5
 rw [show IntKind.i64.wrap (((shr64 (UInt64.ofInt (a + b)) 1).toNat : Nat) : Int) = (M : Int) from hh]
 by_cases e1 : A1.length = 0
 ·rw [ite_f (decide_eq_false (by omega))]
  obtain rfl := List.eq_nil_of_length_eq_zero e1
  exact ⟨B1, rfl, by simp, s2⟩
 ·rw [ite_t (decide_eq_true (by omega))]
  by_cases e2 : B1.length = 0
  ·rw [ite_f (decide_eq_false (by omega))]
   obtain rfl := List.eq_nil_of_length_eq_zero e2
   exact ⟨A1, rfl, by simp, s1⟩
  ·rw [ite_t (decide_eq_true (by omega))]
   obtain ⟨C1, h5, h6, h7⟩ := ih A1 B1 P D a i (M : Int) (List.length_pos_iff.1 (by omega)) (List.length_pos_iff.1 (by omega)) s1 s2 hk ha hi (by omega) hD
   rw [h5, Option.bind_some]
   exact ⟨C1, rfl, h6, h7⟩
theorem merge_hi {l : List (List UInt8)} {n k : Nat} {rc : MrT} (ih : MI l k rc) {A2 B2 S D js : List Nat} {a m b i : Int} {M E : Nat} (hh : hlf (a + b) = (M : Int)) (he : (M : Int) + m - i = (E : Int)) (hM : M = D.length) (hE : E = D.length + A2.length) (hb : b = ((D.length + A2.length + B2.length : Nat) : Int))
  (s1 : Sr l A2) (s2 : Sr l B2) (hk : A2.length + B2.length + 200 ≤ k) (hD : D.length + A2.length + B2.length + S.length ≤ 100000) :
  ∃ C2, srMerge_j6 n rc l js a m b i (D ++ (A2 ++ (B2 ++ S))) = some (D ++ (C2 ++ S)) ∧ C2.Perm (A2 ++ B2) ∧ Sr l C2 := by
 unfold srMerge_j6
 rw [show IntKind.i64.wrap (((shr64 (UInt64.ofInt (a + b)) 1).toNat : Nat) : Int) = (M : Int) from hh, he]
 by_cases e1 : A2.length = 0
 ·rw [ite_f (decide_eq_false (by omega))]
  obtain rfl := List.eq_nil_of_length_eq_zero e1
  exact ⟨B2, rfl, by simp, s2⟩
 ·rw [ite_t (decide_eq_true (by omega))]
  by_cases e2 : B2.length = 0
  ·rw [ite_f (decide_eq_false (by omega))]
   obtain rfl := List.eq_nil_of_length_eq_zero e2
   exact ⟨A2, rfl, by simp, s1⟩
  ·rw [ite_t (decide_eq_true (by omega))]
   obtain ⟨C2, h5, h6, h7⟩ := ih A2 B2 D S (M : Int) (E : Int) b (List.length_pos_iff.1 (by omega)) (List.length_pos_iff.1 (by omega)) s1 s2 hk (by omega) (by omega) hb hD
   rw [h5, Option.bind_some]
   exact ⟨C2, rfl, h6, h7⟩
theorem merge_rot {l : List (List UInt8)} {n : Nat} {rc : MrT} {A1 A2 B1 B2 S P : List Nat} {a m b i : Int} {M E : Nat} (hh : hlf (a + b) = (M : Int)) (he : (M : Int) + m - i = (E : Int)) (hi : i = ((P.length + A1.length : Nat) : Int)) (hm : m = ((P.length + A1.length + A2.length : Nat) : Int)) (hE : E = P.length + A1.length + A2.length + B1.length)
  (hn : A2.length + B1.length < n) (hD : P.length + A1.length + A2.length + B1.length + B2.length + S.length ≤ 100000) :
  srMerge_j4 n rc l (P ++ (A1 ++ (A2 ++ (B1 ++ (B2 ++ S))))) a m b i = srMerge_j5 n rc l (P ++ (A1 ++ (A2 ++ (B1 ++ (B2 ++ S))))) a m b i (P ++ (A1 ++ (B1 ++ (A2 ++ (B2 ++ S))))) := by
 unfold srMerge_j4
 rw [show IntKind.i64.wrap (((shr64 (UInt64.ofInt (a + b)) 1).toNat : Nat) : Int) = (M : Int) from hh, he, gd_pos (okI64 (by omega) (by omega))]
 by_cases e1 : A2.length = 0
 ·rw [ite_f (decide_eq_false (by omega))]
  obtain rfl := List.eq_nil_of_length_eq_zero e1
  rfl
 ·rw [ite_t (decide_eq_true (by omega))]
  by_cases e2 : B1.length = 0
  ·rw [ite_f (decide_eq_false (by omega))]
   obtain rfl := List.eq_nil_of_length_eq_zero e2
   rfl
  ·rw [ite_t (decide_eq_true (by omega))]
   have := rot_is (n := n) l (X := A2) (Y := B1) (P := P ++ A1) (S := B2 ++ S) (a1 := i) (a2 := m) (a3 := (E : Int)) (List.length_pos_iff.1 (by omega)) (List.length_pos_iff.1 (by omega)) (by omega) (by rw [List.length_append]; omega) (by rw [List.length_append]; omega) (by rw [List.length_append]; omega) (by rw [List.length_append, List.length_append]; omega)
   simp only [List.append_assoc] at this
   rw [this, Option.bind_some]
theorem merge_cut {l : List (List UInt8)} {n k : Nat} {rc : MrT} (ih : MI l k rc) {A1 A2 B1 B2 S P : List Nat} {a m b i : Int} {M E : Nat} (hh : hlf (a + b) = (M : Int)) (he : (M : Int) + m - i = (E : Int)) (ha : a = (P.length : Int)) (hi : i = ((P.length + A1.length : Nat) : Int)) (hm : m = ((P.length + A1.length + A2.length : Nat) : Int))
  (hb : b = ((P.length + A1.length + A2.length + B1.length + B2.length : Nat) : Int)) (hM : M = P.length + A1.length + B1.length) (hE : E = P.length + A1.length + A2.length + B1.length)
  (hn : A2.length + B1.length < n) (hk1 : A1.length + B1.length + 200 ≤ k) (hk2 : A2.length + B2.length + 200 ≤ k) (hD : P.length + A1.length + A2.length + B1.length + B2.length + S.length ≤ 100000)
  (sA : Sr l (A1 ++ A2)) (sB : Sr l (B1 ++ B2)) (c1 : ∀ x ∈ A1, ∀ y ∈ B2, ltl l y x = false) (c2 : ∀ x ∈ B1, ∀ y ∈ A2, ltl l y x = false) :
  ∃ C, srMerge_j4 n rc l (P ++ (A1 ++ (A2 ++ (B1 ++ (B2 ++ S))))) a m b i = some (P ++ (C ++ S)) ∧ C.Perm (A1 ++ A2 ++ (B1 ++ B2)) ∧ Sr l C := by
 obtain ⟨sa1, sa2, sa3⟩ := Sr_app.1 sA
 obtain ⟨sb1, sb2, sb3⟩ := Sr_app.1 sB
 have cross : ∀ x ∈ A1 ++ B1, ∀ y ∈ A2 ++ B2, ltl l y x = false := fun x hx y hy => by
  rcases List.mem_append.1 hx with hx | hx <;> rcases List.mem_append.1 hy with hy | hy
  ·exact sa3 x hx y hy
  ·exact c1 x hx y hy
  ·exact c2 x hx y hy
  ·exact sb3 x hx y hy
 obtain ⟨C1, h5, h6, h7⟩ := merge_lo (n := n) (js := P ++ (A1 ++ (A2 ++ (B1 ++ (B2 ++ S))))) (m := m) ih (D := A2 ++ (B2 ++ S)) hh ha hi hM sa1 sb1 hk1 (by simp only [List.length_append]; omega)
 have hl := h6.length_eq
 rw [List.length_append] at hl
 obtain ⟨C2, h8, h9, h10⟩ := merge_hi (n := n) (js := P ++ (A1 ++ (A2 ++ (B1 ++ (B2 ++ S))))) ih (S := S) (D := P ++ C1) (a := a) (m := m) (i := i) hh he (by rw [List.length_append]; omega) (by rw [List.length_append]; omega) (by rw [List.length_append]; omega) sa2 sb2 hk2 (by rw [List.length_append]; omega)
 refine ⟨C1 ++ C2, ?_, ?_, ?_⟩
 ·rw [merge_rot hh he hi hm hE hn hD, h5, ← List.append_assoc P C1, h8]
  simp only [List.append_assoc]
 ·refine (h6.append h9).trans ?_
  rw [List.append_assoc, List.append_assoc]
  refine List.Perm.append_left _ ?_
  rw [← List.append_assoc, ← List.append_assoc]
  exact List.Perm.append_right _ List.perm_append_comm
 ·rw [Sr_app]
  exact ⟨h7, h10, fun x hx y hy => cross x (h6.mem_iff.1 hx) y (h9.mem_iff.1 hy)⟩
theorem merge_key {l : List (List UInt8)} {n k : Nat} {rc : MrT} (ih : MI l k rc) {A B S P : List Nat} {M lo hi : Nat} (hM : M = (P.length + (P.length + A.length + B.length)) / 2) (sA : Sr l A) (sB : Sr l B) (hA : 2 ≤ A.length) (hB : 2 ≤ B.length) (hk : A.length + B.length + 199 ≤ k) (hkn : k ≤ n)
  (h4 : P.length + A.length + B.length + S.length ≤ 100000)
  (b1 : P.length ≤ lo ∧ lo ≤ hi ∧ hi ≤ P.length + A.length) (b2 : P.length + A.length + hi ≤ M + (P.length + A.length)) (b3 : M + (P.length + A.length) ≤ P.length + A.length + B.length + lo)
  (b4 : P.length < lo → M + (P.length + A.length) = P.length + A.length + B.length + lo) (b5 : hi < P.length + A.length → hi = M) :
  ∃ C, srMerge_j3 n rc l (P ++ (A ++ (B ++ S))) (P.length : Int) ((P.length + A.length : Nat) : Int) ((P.length + A.length + B.length : Nat) : Int) (lo : Int) (hi : Int) = some (P ++ (C ++ S)) ∧ C.Perm (A ++ B) ∧ Sr l C := by
 have hh := half_is (s := P.length + (P.length + A.length + B.length)) (i := (P.length : Int) + ((P.length + A.length + B.length : Nat) : Int)) (by omega) (by omega)
 rw [← hM] at hh
 have hjl : (P ++ (A ++ (B ++ S))).length = P.length + A.length + B.length + S.length := by simp; omega
 have gA : ∀ t, t < A.length → (P ++ (A ++ (B ++ S))).getD (P.length + t) 0 = A.getD t 0 := fun t ht => get_in rfl ht
 have gB : ∀ t, t < B.length → (P ++ (A ++ (B ++ S))).getD (P.length + A.length + t) 0 = B.getD t 0 := fun t ht => by
  rw [← List.append_assoc P]
  exact get_in (by simp) ht
 obtain ⟨js, hjs⟩ : ∃ js, js = P ++ (A ++ (B ++ S)) := ⟨_, rfl⟩
 rw [← hjs] at hjl gA gB ⊢
 obtain ⟨p, hp⟩ : ∃ p, p = P.length := ⟨_, rfl⟩
 obtain ⟨m, hm⟩ : ∃ m, m = P.length + A.length := ⟨_, rfl⟩
 obtain ⟨e, he⟩ : ∃ e, e = P.length + A.length + B.length := ⟨_, rfl⟩
 obtain ⟨N, hN⟩ : ∃ N, N = M + m := ⟨_, rfl⟩
 rw [← he] at hh b3 b4 hM ⊢
 rw [← hm] at gB b1 b2 b3 b4 b5 ⊢
 rw [← hp] at gA b1 hh hM b4 ⊢
 rw [← hN] at b2 b3 b4
 unfold srMerge_j3
 rw [hh, gd_pos (okI64 (by omega) (by omega))]
 obtain ⟨i, i1, i2, i3, i4, hi'⟩ := bs_l5 n rc l js (by omega) (a := p) (m := m) (b := e) N (by omega) (by omega) (by omega) lo hi (by omega) (by omega) (by omega) (fun s t s1 st t1 ht => by
  obtain ⟨s', rfl⟩ : ∃ s', s = p + s' := ⟨s - p, by omega⟩
  obtain ⟨t', rfl⟩ : ∃ t', t = p + t' := ⟨t - p, by omega⟩
  obtain ⟨u, hu⟩ : ∃ u, N - 1 - (p + s') = m + u := ⟨N - 1 - (p + s') - m, by omega⟩
  obtain ⟨v, hv⟩ : ∃ v, N - 1 - (p + t') = m + v := ⟨N - 1 - (p + t') - m, by omega⟩
  rw [hv, gA _ (by omega), gB _ (by omega)] at ht
  rw [hu, gA _ (by omega), gB _ (by omega)]
  exact ltl_tr (ltl_tr (sA.at (by omega) (by omega)) ht) (sB.at (by omega) (by omega))) n lo hi (Nat.le_refl _) (by omega) (Nat.le_refl _) (by omega) (fun t t1 t2 => by omega) (fun t t1 t2 => by omega)
 rw [hi']
 obtain ⟨A1, A2, hAe, hlA⟩ := cut_at A (i - p) (by omega)
 obtain ⟨B1, B2, hBe, hlB⟩ := cut_at B (N - i - m) (by omega)
 have lA : A.length = A1.length + A2.length := by rw [hAe, List.length_append]
 have lB : B.length = B1.length + B2.length := by rw [hBe, List.length_append]
 have gA1 : ∀ t, t < A1.length → js.getD (p + t) 0 = A1.getD t 0 := fun t ht => by
  rw [gA t (by omega), hAe, List.getD_eq_getElem?_getD, List.getElem?_append_left ht, ← List.getD_eq_getElem?_getD]
 have gA2 : ∀ t, t < A2.length → js.getD (i + t) 0 = A2.getD t 0 := fun t ht => by
  have := gA (A1.length + t) (by omega)
  rw [show p + (A1.length + t) = i + t by omega] at this
  rw [this, hAe, List.getD_eq_getElem?_getD, List.getElem?_append_right (by omega), Nat.add_sub_cancel_left, ← List.getD_eq_getElem?_getD]
 have gB1 : ∀ t, t < B1.length → js.getD (m + t) 0 = B1.getD t 0 := fun t ht => by
  rw [gB t (by omega), hBe, List.getD_eq_getElem?_getD, List.getElem?_append_left ht, ← List.getD_eq_getElem?_getD]
 have gB2 : ∀ t, t < B2.length → js.getD (N - i + t) 0 = B2.getD t 0 := fun t ht => by
  have := gB (B1.length + t) (by omega)
  rw [show m + (B1.length + t) = N - i + t by omega] at this
  rw [this, hBe, List.getD_eq_getElem?_getD, List.getElem?_append_right (by omega), Nat.add_sub_cancel_left, ← List.getD_eq_getElem?_getD]
 rw [hAe] at sA
 rw [hBe] at sB
 obtain ⟨sa1, sa2, sa3⟩ := Sr_app.1 sA
 obtain ⟨sb1, sb2, sb3⟩ := Sr_app.1 sB
 -- what comes first is no more than what comes behind
 have c1 : ∀ x ∈ A1, ∀ y ∈ B2, ltl l y x = false := fun x hx y hy => by
  obtain ⟨t, ht, rfl⟩ := mem_at hx
  obtain ⟨u, hu, rfl⟩ := mem_at hy
  have hlo : lo < i := by omega
  have h5 := i3 (i - 1) (by omega) (by omega)
  rw [show N - 1 - (i - 1) = N - i + 0 by omega, gB2 0 (by omega), show i - 1 = p + (A1.length - 1) by omega, gA1 _ (by omega)] at h5
  exact ltl_tr (ltl_tr (sa1.at (by omega) (by omega)) h5) (sb2.at (Nat.zero_le _) hu)
 have c2 : ∀ x ∈ B1, ∀ y ∈ A2, ltl l y x = false := fun x hx y hy => by
  obtain ⟨t, ht, rfl⟩ := mem_at hx
  obtain ⟨u, hu, rfl⟩ := mem_at hy
  have hhi : i < hi := by omega
  have h5 := i4 i (by omega) (by omega)
  rw [show N - 1 - i = m + (B1.length - 1) by omega, gB1 _ (by omega), show js.getD i 0 = js.getD (i + 0) 0 from rfl, gA2 0 (by omega)] at h5
  exact ltl_tr (ltl_tr (sb1.at (by omega) (by omega)) (ltl_as h5)) (sa2.at (Nat.zero_le _) hu)
 rw [hjs, hAe, hBe]
 have hfin := merge_cut (n := n) ih (A1 := A1) (A2 := A2) (B1 := B1) (B2 := B2) (S := S) (P := P) (a := (p : Int)) (m := (m : Int)) (b := (e : Int)) (i := (i : Int)) (M := M) (E := N - i) hh (by omega) (by omega) (by omega) (by omega) (by omega) (by omega) (by omega) (by omega) (by omega) (by omega) (by omega) sA sB c1 c2
 simp only [List.append_assoc] at hfin ⊢
 exact hfin
theorem merge_is (l : List (List UInt8)) : ∀ n : Nat, MI l n (srMerge n)
 | 0, A, B, P, S, _, _, _, hA, _, _, _, h, _, _, _, _ => by omega
 | n + 1, A, B, P, S, _, _, _, hA, hB, sA, sB, hn, rfl, rfl, rfl, h4 => by
  have ha := List.length_pos_iff.2 hA
  have hb := List.length_pos_iff.2 hB
  rw [srMerge, gd_pos (okI64 (by omega) (by omega))]
  by_cases h1 : A.length = 1
  ·obtain ⟨x, rfl⟩ := List.length_eq_one_iff.1 h1
   rw [ite_t (by rw [beq_iff_eq]; simp only [List.length_singleton]; omega)]
   exact merge_one (srMerge n) sB (by omega) (by simp only [List.length_singleton] at h4; omega)
  ·rw [ite_f (by rw [beq_eq_false_iff_ne]; omega), gd_pos (okI64 (by omega) (by omega))]
   by_cases h2 : B.length = 1
   ·obtain ⟨x, rfl⟩ := List.length_eq_one_iff.1 h2
    rw [ite_t (by rw [beq_iff_eq]; simp only [List.length_singleton]; omega)]
    exact merge_last (srMerge n) sA (by omega) (by simp only [List.length_singleton] at h4; omega)
   ·rw [ite_f (by rw [beq_eq_false_iff_ne]; omega), gd_pos (okI64 (by omega) (by omega)), gd_pos (by decide)]
    obtain ⟨M, hM⟩ : ∃ M, M = (P.length + (P.length + A.length + B.length)) / 2 := ⟨_, rfl⟩
    have hh := half_is (s := P.length + (P.length + A.length + B.length)) (i := (P.length : Int) + ((P.length + A.length + B.length : Nat) : Int)) (by omega) (by omega)
    rw [← hM] at hh
    rw [hh, gd_pos (okI64 (by omega) (by omega))]
    by_cases hc : M < P.length + A.length
    ·rw [ite_t (decide_eq_true (by omega)), gd_pos (okI64 (by omega) (by omega))]
     rw [show ((M : Int) + ((P.length + A.length : Nat) : Int)) - ((P.length + A.length + B.length : Nat) : Int) = ((M + (P.length + A.length) - (P.length + A.length + B.length) : Nat) : Int) by omega]
     exact merge_key (merge_is l n) hM sA sB (by omega) (by omega) (by omega) (Nat.le_refl _) h4 (by omega) (by omega) (by omega) (by omega) (by omega)
    ·rw [ite_f (decide_eq_false (by omega))]
     exact merge_key (merge_is l n) hM sA sB (by omega) (by omega) (by omega) (Nat.le_refl _) h4 (by omega) (by omega) (by omega) (by omega) (by omega)
end Go.Sx
end
section
namespace Go.Sx
open Go Go.RowKit Go.Ch Go.Proofs.Ytliilihbnhdemaa
theorem ins_l2 (n : Nat) (l : List (List UInt8)) (js : List Nat) (hj : js.length ≤ 100000) (y : Nat) (T : List Nat) (a1 a2 i8 : Int) (hi8 : 0 ≤ i8 ∧ i8 ≤ 1000000) (k : List Nat → Int → Option (List Nat)) : ∀ (c : Nat) (X1 X2 P : List Nat) (fu : Nat) (i : Int), X1.length = c → c < fu → i = ((P.length + X1.length : Nat) : Int) → a1 = (P.length : Int) →
  js.length = P.length + X1.length + 1 + X2.length + T.length → Sr l (X1 ++ X2) → (∀ z ∈ X2, ltl l y z = true) →
  ∃ C, srIns_l2 n l js a1 a2 i8 k fu (P ++ (X1 ++ (y :: (X2 ++ T)))) i = k (P ++ (C ++ T)) (i8 + 1) ∧ C.Perm (X1 ++ y :: X2) ∧ Sr l C
 | _, _, _, _, 0, _, _, h, _, _, _, _, _ => by omega
 | 0, X1, X2, P, fu + 1, i, hc, _, hi, ha, hl, hs, hy => by
  obtain rfl := List.eq_nil_of_length_eq_zero hc
  simp only [List.length_nil, Nat.add_zero] at hi
  rw [srIns_l2, ite_f (decide_eq_false (by omega)), gd_pos (okI64 (by omega) (by omega))]
  exact ⟨y :: X2, by simp, by simp, List.pairwise_cons.2 ⟨fun z hz => ltl_as (hy z hz), hs⟩⟩
 | c + 1, X1, X2, P, fu + 1, i, hc, hf, hi, ha, hl, hs, hy => by
  obtain ⟨X, z, rfl⟩ : ∃ X z, X1 = X ++ [z] := by
   have hne : X1 ≠ [] := by rintro rfl; simp at hc
   exact ⟨X1.dropLast, X1.getLast hne, (List.dropLast_concat_getLast hne).symm⟩
  rw [List.length_append, List.length_singleton] at hc hi hl
  rw [srIns_l2, ite_t (decide_eq_true (by omega)), gd_pos (by omega), gd_pos (by omega), gd_pos (okI64 (by omega) (by omega)), gd_pos (by omega), gd_pos (by omega)]
  have e0 : P ++ (X ++ [z] ++ (y :: (X2 ++ T))) = (P ++ X) ++ z :: (y :: (X2 ++ T)) := by simp
  have t1 : i.toNat = P.length + X.length + 1 := by omega
  have t2 : (i - 1).toNat = P.length + X.length := by omega
  have g1 : (P ++ (X ++ [z] ++ (y :: (X2 ++ T)))).getD (P.length + X.length + 1) 0 = y := by
   rw [show P ++ (X ++ [z] ++ (y :: (X2 ++ T))) = (P ++ X ++ [z]) ++ y :: (X2 ++ T) by simp]
   exact get_mid _ _ _ (by simp only [List.length_append, List.length_singleton])
  have g2 : (P ++ (X ++ [z] ++ (y :: (X2 ++ T)))).getD (P.length + X.length) 0 = z := by
   rw [e0]
   exact get_mid _ _ _ (by simp only [List.length_append])
  rw [t1, t2, cmp_ltl, g1, g2]
  cases hlt : ltl l y z with
  | false =>
   rw [cond_false, gd_pos (okI64 (by omega) (by omega))]
   refine ⟨X ++ [z] ++ y :: X2, by simp, .refl _, ?_⟩
   rw [Sr_app]
   obtain ⟨s1, s2, s3⟩ := Sr_app.1 hs
   refine ⟨s1, List.pairwise_cons.2 ⟨fun w hw => ltl_as (hy w hw), s2⟩, fun u hu w hw => ?_⟩
   rcases List.mem_cons.1 hw with rfl | hw
   ·-- before the place: all are no more than z, and z is no more than y
    rcases List.mem_append.1 hu with hu | hu
    ·exact ltl_tr ((Sr_app.1 s1).2.2 u hu z (List.mem_singleton.2 rfl)) hlt
    ·rw [List.mem_singleton.1 hu]; exact hlt
   ·exact s3 u hu w hw
  | true =>
   rw [cond_true, gd_pos (okI64 (by omega) (by omega)), gd_pos (okI64 (by omega) (by omega)), gd_pos (by omega), gd_pos (by omega), gd_pos (by omega), gd_pos (by omega), gd_pos (by omega), gd_pos (by omega), gd_pos (by omega), gd_pos (by omega), gd_pos (okI64 (by omega) (by omega))]
   have e := swp2' (pre := P ++ X) (mid := []) (post := X2 ++ T) (x := z) (y := y) (p := P.length + X.length) (q := P.length + X.length + 1) (by simp only [List.length_append]) (by simp)
   rw [List.nil_append, List.nil_append] at e
   have e1 : ((P ++ (X ++ [z] ++ (y :: (X2 ++ T)))).set (P.length + X.length + 1) z).set (P.length + X.length) y = P ++ (X ++ (y :: ((z :: X2) ++ T))) := by
    have := e
    rw [e0] at g1 g2
    rw [g1, g2] at this
    rw [e0, this]; simp
   rw [e1]
   obtain ⟨s1, s2, s3⟩ := Sr_app.1 hs
   have hs' : Sr l (X ++ z :: X2) := by rw [show X ++ z :: X2 = X ++ [z] ++ X2 by simp]; exact hs
   obtain ⟨C, h1, h2, h3⟩ := ins_l2 n l js hj y T a1 a2 i8 hi8 k c X (z :: X2) P fu (i - 1) (by omega) (by omega) (by omega) ha (by rw [List.length_cons]; omega) hs' (fun w hw => by
    rcases List.mem_cons.1 hw with rfl | hw
    ·exact hlt
    ·exact hy w hw)
   refine ⟨C, h1, h2.trans ?_, h3⟩
   rw [List.append_assoc]
   exact List.Perm.append_left X (List.Perm.swap z y X2)
theorem ins_l1 (n : Nat) (l : List (List UInt8)) (js : List Nat) (hj : js.length ≤ 100000) (T : List Nat) (a1 a2 : Int) : ∀ (Y X P : List Nat) (fu : Nat) (i8 : Int), Y.length < fu → i8 = ((P.length + X.length : Nat) : Int) → a1 = (P.length : Int) → a2 = ((P.length + X.length + Y.length : Nat) : Int) → X.length + Y.length < n →
  js.length = P.length + X.length + Y.length + T.length → Sr l X →
  ∃ C, srIns_l1 n l js a1 a2 fu (P ++ (X ++ (Y ++ T))) i8 = some (P ++ (C ++ T)) ∧ C.Perm (X ++ Y) ∧ Sr l C
 | _, _, _, 0, _, h, _, _, _, _, _, _ => by omega
 | [], X, P, fu + 1, i8, _, hi, ha, h2, _, hl, hs => by
  simp only [List.length_nil] at h2
  rw [srIns_l1, ite_f (decide_eq_false (by omega))]
  exact ⟨X, rfl, by simp, hs⟩
 | y :: Y, X, P, fu + 1, i8, hf, hi, ha, h2, hn, hl, hs => by
  simp only [List.length_cons] at hf h2 hl hn
  rw [srIns_l1, ite_t (decide_eq_true (by omega))]
  obtain ⟨C, h1, h3, h4⟩ := ins_l2 n l js hj y (Y ++ T) a1 a2 i8 ⟨by omega, by omega⟩ (srIns_l1 n l js a1 a2 fu) X.length X [] P n i8 rfl (by omega) hi ha (by rw [List.length_nil, List.length_append]; omega) (by rw [List.append_nil]; exact hs) (fun z hz => by cases hz)
  rw [List.nil_append] at h1
  have hcl := h3.length_eq
  rw [List.length_append, List.length_singleton] at hcl
  obtain ⟨D, h5, h6, h7⟩ := ins_l1 n l js hj T a1 a2 Y C P fu (i8 + 1) (by omega) (by omega) ha (by omega) (by omega) (by omega) h4
  refine ⟨D, ?_, ?_, h7⟩
  ·rw [show P ++ (X ++ (y :: Y ++ T)) = P ++ (X ++ (y :: (Y ++ T))) from rfl, h1, h5]
  ·refine h6.trans ((h3.append_right Y).trans ?_)
   simp
theorem ins_is {n : Nat} (l : List (List UInt8)) {X P T : List Nat} {a1 a2 : Int} (ha : a1 = (P.length : Int)) (hb : a2 = ((P.length + X.length : Nat) : Int)) (hn : X.length + 1 < n) (hl : P.length + X.length + T.length ≤ 100000) :
  ∃ C, srIns n l (P ++ (X ++ T)) a1 a2 = some (P ++ (C ++ T)) ∧ C.Perm X ∧ Sr l C := by
 unfold srIns
 rw [gd_pos (okI64 (by omega) (by omega))]
 cases X with
 | nil =>
  simp only [List.length_nil] at hb
  obtain ⟨m, rfl⟩ : ∃ m, n = m + 1 := ⟨n - 1, by omega⟩
  rw [srIns_l1, ite_f (decide_eq_false (by omega))]
  exact ⟨[], rfl, .refl _, List.Pairwise.nil⟩
 | cons x X =>
  simp only [List.length_cons] at hb hn hl
  exact ins_l1 n l (P ++ (x :: X ++ T)) (by simp only [List.length_append, List.length_cons]; omega) T a1 a2 X [x] P n (a1 + 1) (by omega) (by rw [List.length_singleton]; omega) ha (by rw [List.length_singleton]; omega) (by rw [List.length_singleton]; omega) (by simp only [List.length_append, List.length_cons, List.length_nil]; omega) (List.pairwise_singleton _ _)
def Bks (l : List (List UInt8)) (w : Nat) (bs : List (List Nat)) : Prop := ∀ B ∈ bs, B.length = w ∧ Sr l B
theorem Bks.nil {l : List (List UInt8)} {w : Nat} : Bks l w [] := fun _ h => by cases h
theorem Bks.cons {l : List (List UInt8)} {w : Nat} {B : List Nat} {bs : List (List Nat)} (h : B.length = w) (hs : Sr l B) (hb : Bks l w bs) : Bks l w (B :: bs) := fun C hC => by
 rcases List.mem_cons.1 hC with rfl | hC
 ·exact ⟨h, hs⟩
 ·exact hb C hC
theorem Bks.len {l : List (List UInt8)} {w : Nat} : ∀ {bs : List (List Nat)}, Bks l w bs → bs.flatten.length = bs.length * w
 | [], _ => by simp
 | B :: bs, h => by
  rw [List.flatten_cons, List.length_append, Bks.len (fun C hC => h C (List.mem_cons_of_mem _ hC)), (h B List.mem_cons_self).1, List.length_cons, Nat.succ_mul]; omega
theorem st_l2 (n : Nat) (l : List (List UInt8)) (js : List Nat) (a1 : Int) (w : Nat) (hw : 0 < w ∧ w ≤ 100000) (k : List Nat → Int → Option (List Nat)) : ∀ (c : Nat) (bs : List (List Nat)) (last P : List Nat) (fu : Nat) (i7 i8 : Int), bs.length ≤ c → c < fu → Bks l w bs → Sr l last → last.length < w → i7 = (P.length : Int) → i8 = ((P.length + 2 * w : Nat) : Int) → a1 = ((P.length + bs.flatten.length + last.length : Nat) : Int) →
  P.length + bs.flatten.length + last.length ≤ 100000 → P.length + bs.flatten.length + last.length + 200 ≤ n →
  ∃ bs' last', srStable_l2 n l js a1 (w : Int) k fu (P ++ (bs.flatten ++ last)) i7 i8 = k (P ++ (bs'.flatten ++ last')) ((2 * w : Nat) : Int) ∧ Bks l (2 * w) bs' ∧ Sr l last' ∧ last'.length < 2 * w ∧ (bs'.flatten ++ last').Perm (bs.flatten ++ last)
 | _, _, _, _, 0, _, _, _, h, _, _, _, _, _, _, _, _ => by omega
 | c, [], last, P, fu + 1, i7, i8, _, _, _, hs, hl, h7, h8, ha, h4, hn => by
  simp only [List.flatten_nil, List.length_nil] at ha h4 hn
  rw [srStable_l2, ite_f (decide_eq_false (by omega))]
  unfold srStable_j2
  rw [gd_pos (okI64 (by omega) (by omega)), ite_f (decide_eq_false (by omega))]
  unfold srStable_j3
  rw [gd_pos (okI64 (by omega) (by omega)), show ((w : Int) * 2) = ((2 * w : Nat) : Int) by omega]
  exact ⟨[], last, rfl, Bks.nil, hs, by omega, .refl _⟩
 | c, [B], last, P, fu + 1, i7, i8, _, _, hB, hs, hl, h7, h8, ha, h4, hn => by
  obtain ⟨b1, b2⟩ := hB B List.mem_cons_self
  simp only [List.flatten_cons, List.flatten_nil, List.append_nil] at ha h4 hn ⊢
  rw [srStable_l2, ite_f (decide_eq_false (by omega))]
  unfold srStable_j2
  rw [gd_pos (okI64 (by omega) (by omega))]
  by_cases e : last.length = 0
  ·obtain rfl := List.eq_nil_of_length_eq_zero e
   simp only [List.length_nil] at ha
   rw [ite_f (decide_eq_false (by omega))]
   unfold srStable_j3
   rw [gd_pos (okI64 (by omega) (by omega)), show ((w : Int) * 2) = ((2 * w : Nat) : Int) by omega]
   exact ⟨[], B, by simp, Bks.nil, b2, by omega, by simp⟩
  ·rw [ite_t (decide_eq_true (by omega))]
   obtain ⟨C, h1, h2, h3⟩ := merge_is l n B last P [] i7 (i7 + (w : Int)) a1 (List.length_pos_iff.1 (by omega)) (List.length_pos_iff.1 (by omega)) b2 hs (by omega) h7 (by omega) (by omega) (by rw [List.length_nil]; omega)
   rw [List.append_nil, List.append_nil] at h1
   rw [h1, Option.bind_some]
   unfold srStable_j3
   rw [gd_pos (okI64 (by omega) (by omega)), show ((w : Int) * 2) = ((2 * w : Nat) : Int) by omega]
   have := h2.length_eq
   rw [List.length_append] at this
   exact ⟨[], C, by simp, Bks.nil, h3, by omega, by simpa using h2⟩
 | c, B1 :: B2 :: bs, last, P, fu + 1, i7, i8, hc, hf, hB, hs, hl, h7, h8, ha, h4, hn => by
  obtain ⟨b1, b2⟩ := hB B1 List.mem_cons_self
  obtain ⟨b3, b4⟩ := hB B2 (List.mem_cons_of_mem _ List.mem_cons_self)
  simp only [List.flatten_cons, List.length_append, List.length_cons] at ha h4 hn hc
  rw [srStable_l2, ite_t (decide_eq_true (by omega)), gd_pos (okI64 (by omega) (by omega))]
  obtain ⟨C, h1, h2, h3⟩ := merge_is l n B1 B2 P (bs.flatten ++ last) i7 (i7 + (w : Int)) i8 (List.length_pos_iff.1 (by omega)) (List.length_pos_iff.1 (by omega)) b2 b4 (by omega) h7 (by omega) (by omega) (by rw [List.length_append]; omega)
  rw [show P ++ ((B1 :: B2 :: bs).flatten ++ last) = P ++ (B1 ++ (B2 ++ (bs.flatten ++ last))) by simp, h1, Option.bind_some, gd_pos (okI64 (by omega) (by omega)), gd_pos (okI64 (by omega) (by omega))]
  have hlC := h2.length_eq
  rw [List.length_append] at hlC
  obtain ⟨bs', last', r1, r2, r3, r4, r5⟩ := st_l2 n l js a1 w hw k (c - 2) bs last (P ++ C) fu i8 (i8 + 2 * (w : Int)) (by omega) (by omega) (fun B hb => hB B (List.mem_cons_of_mem _ (List.mem_cons_of_mem _ hb))) hs hl (by rw [List.length_append]; omega) (by rw [List.length_append]; omega) (by rw [List.length_append]; omega) (by rw [List.length_append]; omega) (by rw [List.length_append]; omega)
  refine ⟨C :: bs', last', ?_, Bks.cons (by omega) h3 r2, r3, r4, ?_⟩
  ·rw [← List.append_assoc P C, r1]
   simp
  ·have := h2.append r5
   simpa using this
theorem st_l1 (n : Nat) (l : List (List UInt8)) (js : List Nat) (a1 : Int) : ∀ (fu : Nat) (bs : List (List Nat)) (last : List Nat) (w : Nat), 0 < fu → 20 ≤ w → w ≤ 200000 → Bks l w bs → Sr l last → last.length < w → a1 = ((bs.flatten.length + last.length : Nat) : Int) →
  bs.flatten.length + last.length ≤ 100000 → bs.flatten.length + last.length + 200 ≤ n → bs.flatten.length + last.length + 20 ≤ w + fu →
  ∃ C, srStable_l1 n l js a1 fu (bs.flatten ++ last) (w : Int) = some C ∧ C.Perm (bs.flatten ++ last) ∧ Sr l C
 | 0, _, _, _, h, _, _, _, _, _, _, _, _, _ => by omega
 | fu + 1, bs, last, w, _, hw, hw2, hB, hs, hl, ha, h4, hn, hf => by
  have hlen := hB.len
  by_cases e : w < bs.flatten.length + last.length
  ·rw [srStable_l1, ite_t (decide_eq_true (by omega)), gd_pos (okI64 (by omega) (by omega))]
   have hbl : bs.length ≤ bs.flatten.length := by rw [hlen]; exact Nat.le_mul_of_pos_right _ (by omega)
   obtain ⟨bs', last', r1, r2, r3, r4, r5⟩ := st_l2 n l js a1 w (by omega) (srStable_l1 n l js a1 fu) bs.length bs last [] n 0 (2 * (w : Int)) (Nat.le_refl _) (by omega) hB hs hl (by simp) (by simp) (by simpa using ha) (by simpa using h4) (by simpa using hn)
   rw [List.nil_append, List.nil_append] at r1
   rw [r1]
   have := r5.length_eq
   rw [List.length_append, List.length_append] at this
   obtain ⟨C, c1, c2, c3⟩ := st_l1 n l js a1 fu bs' last' (2 * w) (by omega) (by omega) (by omega) r2 r3 r4 (by omega) (by omega) (by omega) (by omega)
   exact ⟨C, c1, c2.trans r5, c3⟩
  ·rw [srStable_l1, ite_f (decide_eq_false (by omega))]
   refine ⟨_, rfl, .refl _, ?_⟩
   match bs, hB, hlen, e with
   | [], _, _, _ => simpa using hs
   | [B], hB, hlen, e =>
    obtain ⟨b1, b2⟩ := hB B List.mem_cons_self
    simp only [List.length_singleton, Nat.one_mul] at hlen
    obtain rfl : last = [] := List.eq_nil_of_length_eq_zero (by omega)
    simpa using b2
   | _ :: _ :: bs, hB, hlen, e =>
    simp only [List.length_cons] at hlen
    have : (bs.length + 1 + 1) * w = bs.length * w + w + w := by rw [Nat.succ_mul, Nat.succ_mul]
    omega
theorem st_l3 (n : Nat) (l : List (List UInt8)) (js : List Nat) (a1 : Int) : ∀ (fu : Nat) (R P : List Nat) (i7 i8 : Int), R.length < 20 * fu → i7 = (P.length : Int) → i8 = ((P.length + 20 : Nat) : Int) → a1 = ((P.length + R.length : Nat) : Int) → P.length + R.length ≤ 100000 → R.length + 200 ≤ n →
  ∃ bs R', srStable_l3 n l js a1 fu (P ++ R) i7 i8 = srStable_j1 n l js a1 (P ++ (bs.flatten ++ R')) ((P.length + bs.flatten.length : Nat) : Int) ∧ Bks l 20 bs ∧ R'.length < 20 ∧ (bs.flatten ++ R').Perm R
 | 0, _, _, _, _, h, _, _, _, _, _ => by omega
 | fu + 1, R, P, i7, i8, hf, h7, h8, ha, h4, hn => by
  by_cases e : 20 ≤ R.length
  ·rw [srStable_l3, ite_t (decide_eq_true (by omega))]
   obtain ⟨B, R2, rfl, hB⟩ := cut_at R 20 e
   rw [List.length_append] at hf ha h4 hn
   obtain ⟨C, h1, h2, h3⟩ := ins_is l (X := B) (P := P) (T := R2) (a1 := i7) (a2 := i8) (n := n) h7 (by omega) (by omega) (by omega)
   rw [h1, Option.bind_some, gd_pos (okI64 (by omega) (by omega))]
   have hlC := h2.length_eq
   obtain ⟨bs, R', r1, r2, r3, r4⟩ := st_l3 n l js a1 fu R2 (P ++ C) i8 (i8 + 20) (by omega) (by rw [List.length_append]; omega) (by rw [List.length_append]; omega) (by rw [List.length_append]; omega) (by rw [List.length_append]; omega) (by omega)
   refine ⟨C :: bs, R', ?_, Bks.cons (by omega) h3 r2, r3, ?_⟩
   ·rw [← List.append_assoc P C, r1]
    simp only [List.append_assoc, List.flatten_cons, List.length_append, Nat.add_assoc]
   ·rw [List.flatten_cons, List.append_assoc]
    exact h2.append r4
  ·rw [srStable_l3, ite_f (decide_eq_false (by omega)), h7]
   exact ⟨[], R, by simp, Bks.nil, by omega, by simp⟩
theorem sort_is (l : List (List UInt8)) (js : List Nat) {n : Nat} (h : js.length ≤ 100000) (hn : js.length + 200 ≤ n) : ∃ C, srSort n l js = some C ∧ C.Perm js ∧ Sr l C := by
 unfold srSort srStable
 obtain ⟨bs, R, r1, r2, r3, r4⟩ := st_l3 n l js ((js.length : Nat) : Int) n js [] 0 20 (by omega) rfl (by simp) (by simp) (by simpa using h) hn
 rw [List.nil_append, List.nil_append] at r1
 rw [r1]
 have hl := r4.length_eq
 rw [List.length_append] at hl
 unfold srStable_j1
 obtain ⟨C, h1, h2, h3⟩ := ins_is l (X := R) (P := bs.flatten) (T := []) (a1 := ((([] : List Nat).length + bs.flatten.length : Nat) : Int)) (a2 := ((js.length : Nat) : Int)) (n := n) (by simp) (by omega) (by omega) (by rw [List.length_nil]; omega)
 rw [List.append_nil, List.append_nil] at h1
 rw [h1, Option.bind_some]
 have hlC := h2.length_eq
 obtain ⟨D, d1, d2, d3⟩ := st_l1 n l js ((js.length : Nat) : Int) n bs C 20 (by omega) (Nat.le_refl _) (by omega) r2 h3 (by omega) (by omega) (by omega) (by omega) (by omega)
 rw [show (20 : Int) = ((20 : Nat) : Int) from rfl, d1, Option.bind_some]
 exact ⟨D, rfl, d2.trans ((List.Perm.append_left _ h2).trans r4), d3⟩
end Go.Sx
end
section
namespace Go.Sx
open Go Go.RowKit Go.Ch Go.Proofs.Ytliilihbnhdemaa
theorem range_at {L t : Nat} (h : t < L) : (List.range L).getD t 0 = t := by
 rw [List.getD_eq_getElem?_getD, List.getElem?_range h]; rfl
theorem bigL_len {v : Nat} (h : (nD v).length ≤ 64) : (bigL v).length ≤ 1000 := by
 rw [D_len_dB] at h
 unfold bigL
 split
 ·rw [List.length_cons]; omega
 ·omega
theorem nD_0 : nD 0 = [] := by decide +kernel
theorem nE_0 : nE 0 = [] := by decide +kernel
theorem stP_l3 {n : Nat} (hn : 18446744073709551616 ≤ n) {a0 : List UInt32} (a2 : List (List UInt8)) (r55 : List UInt8 × Int × Option Int) (r60 : List UInt32 × Nat × Option Int) (r65 : List UInt32 × Option Int) (x : List UInt8 × Option Int) {w : Nat} (e60 : r60.1 = nD w) (hw1 : (nD w).length ≤ 100000) (hw2 : (nE w).length ≤ 100000) (hx : pBig n a0 = some x) (hxl : x.1.length ≤ 1000)
  (hR : r65.1.length ≤ 1000) : ∀ (fu t : Nat) (l : List UInt8), t ≤ x.1.length → x.1.length < t + fu →
  lPStays_l3 n a0 a2 true r55 r60 r65 r55 r60 r65 x fu l (t : Int) = some true
 | 0, t, _, h1, h2 => by omega
 | fu + 1, t, l, h1, h2 => by
  by_cases e : t < x.1.length
  ·rw [lPStays_l3, ite_t (decide_eq_true (by omega)), gd_pos (by omega), gd_pos (by omega), gd_pos (by omega), gd_pos (by omega), gd_pos (okI64 (by omega) (by omega)), show ((t : Int) + 1) = ((t + 1 : Nat) : Int) by omega]
   exact stP_l3 hn a2 r55 r60 r65 x e60 hw1 hw2 hx hxl hR fu (t + 1) _ (by omega) (by omega)
  ·rw [lPStays_l3, ite_f (decide_eq_false (by omega)), hx, Option.bind_some, ite_t (by rfl), ite_t (by rw [List.length_range]; simp), ite_t (by simp), ite_t (by simp), ite_t (by simp), e60, rOf_is hn hw1, Option.bind_some, V_D, rSame_is hn (by omega) hw2, Option.bind_some, ite_t (by simp), ite_t (by simp), lsame_is (by omega) _ _ hR, Option.bind_some, ite_t (by simp), ite_t (by simp)]
   simp
theorem stP_l2 {n : Nat} (hn : 18446744073709551616 ≤ n) {a0 : List UInt32} {a1 : List UInt8} (h1' : a1.length ≤ 300) (a2 : List (List UInt8)) (r55 : List UInt8 × Int × Option Int) (r60 : List UInt32 × Nat × Option Int) (r65 : List UInt32 × Option Int) (x : List UInt8 × Option Int) {w : Nat} (e60 : r60.1 = nD w) (hw1 : (nD w).length ≤ 100000) (hw2 : (nE w).length ≤ 100000) (hx : pBig n a0 = some x) (hxl : x.1.length ≤ 1000)
  (hR : r65.1.length ≤ 1000) (g1 : pReadBits n a1 = some r55) (g2 : pReadBig n a1 = some r60) (g3 : pReadOid n a1 = some r65) : ∀ (fu t : Nat) (l : List UInt8), t ≤ a1.length → a1.length < t + fu →
  lPStays_l2 n a0 a1 a2 true r55 r60 r65 fu l (t : Int) = some true
 | 0, t, _, h1, h2 => by omega
 | fu + 1, t, l, h1, h2 => by
  by_cases e : t < a1.length
  ·rw [lPStays_l2, List.nil_append, ite_t (decide_eq_true (by omega)), gd_pos (by omega), gd_pos (by omega), gd_pos (by omega), gd_pos (by omega), gd_pos (okI64 (by omega) (by omega)), show ((t : Int) + 1) = ((t + 1 : Nat) : Int) by omega]
   exact stP_l2 hn h1' a2 r55 r60 r65 x e60 hw1 hw2 hx hxl hR g1 g2 g3 fu (t + 1) _ (by omega) (by omega)
  ·rw [lPStays_l2, List.nil_append, ite_f (decide_eq_false (by omega)), g1, Option.bind_some, g2, Option.bind_some, g3, Option.bind_some, hx, Option.bind_some]
   exact stP_l3 hn a2 r55 r60 r65 x e60 hw1 hw2 hx hxl hR n 0 _ (by omega) (by omega)
theorem stP_l1 {n : Nat} (a0 : List UInt32) (a1 : List UInt8) {a2 : List (List UInt8)} (h2' : a2.length ≤ 100) (r55 : List UInt8 × Int × Option Int) (r60 : List UInt32 × Nat × Option Int) (r65 : List UInt32 × Option Int) (hk : lPStays_l2 n a0 a1 a2 true r55 r60 r65 n ([] ++ a1) 0 = some true) : ∀ (fu t : Nat), t ≤ a2.length → a2.length < t + fu →
  lPStays_l1 n a0 a1 a2 true r55 r60 r65 fu (t : Int) = some true
 | 0, t, h1, h2 => by omega
 | fu + 1, t, h1, h2 => by
  by_cases e : t < a2.length
  ·rw [lPStays_l1, ite_t (decide_eq_true (by omega)), gd_pos (by omega), gd_pos (by rw [List.length_range]; omega), gd_pos (by omega), gd_pos (by omega), show ((t : Int)).toNat = t by omega, range_at e, ite_f (by simp), gd_pos (okI64 (by omega) (by omega)), show ((t : Int) + 1) = ((t + 1 : Nat) : Int) by omega]
   exact stP_l1 a0 a1 h2' r55 r60 r65 hk fu (t + 1) (by omega) (by omega)
  ·rw [lPStays_l1, ite_f (decide_eq_false (by omega)), hk]
theorem bits_tot (n : Nat) (a : List UInt8) (ha : a.length ≤ 1000) : ∃ r, pReadBits n a = some r := by
 by_cases h : a.length = 0
 ·unfold pReadBits
  exact ⟨_, ite_t (by rw [beq_iff_eq]; omega)⟩
 ·exact ⟨_, pReadBits_is n a (by omega) h⟩
theorem big_tot {n : Nat} (hn : 18446744073709551616 ≤ n) (a : List UInt8) (ha : a.length ≤ 1000) : ∃ r w, pReadBig n a = some r ∧ r.1 = nD w ∧ (nD w).length ≤ 100000 ∧ (nE w).length ≤ 100000 := by
 have h := pReadBig_is hn (l := a) (by omega)
 have hE : (nE (nB a)).length ≤ a.length := E_of_dB
 by_cases c1 : a = [] ∨ 128 ≤ (a.getD 0 0).toNat ∨ (2 ≤ a.length ∧ spare a = true)
 ·rw [if_pos c1] at h
  exact ⟨_, 0, h, nD_0.symm, by rw [nD_0]; simp, by rw [nE_0]; simp⟩
 ·rw [if_neg c1] at h
  by_cases c2 : 256 < (dB (nB a)).length
  ·rw [if_pos c2] at h
   exact ⟨_, 0, h, nD_0.symm, by rw [nD_0]; simp, by rw [nE_0]; simp⟩
  ·rw [if_neg c2] at h
   exact ⟨_, nB a, h, rfl, by rw [D_len_dB]; omega, by omega⟩
theorem oid_tot {n : Nat} (hn : 2000 ≤ n) (a : List UInt8) (ha : a.length ≤ 1000) : ∃ r, pReadOid n a = some r ∧ r.1.length ≤ 1000 := by
 refine ⟨_, pReadOid_is ha hn, ?_⟩
 rcases all_eq a with ⟨l, h1, _, h3, _⟩ | ⟨h3, _⟩
 ·rw [h3]; have := oidOk_len h1; show l.length ≤ 1000; omega
 ·rw [h3]; show (0 : Nat) ≤ 1000; omega
theorem lPStays_is (a0 : List UInt32) (a1 : List UInt8) (a2 : List (List UInt8)) : lPStays NB a0 a1 a2 = some true := by
 have hN := NB_ok
 unfold lPStays
 rw [upB, Option.bind_some]
 by_cases g1 : 60 < a0.length
 ·rw [ite_t (decide_eq_true (by omega))]
 rw [ite_f (decide_eq_false (by omega))]
 by_cases g2 : 300 < a1.length
 ·rw [ite_t (decide_eq_true (by omega))]
 rw [ite_f (decide_eq_false (by omega))]
 by_cases g3 : 30 < a2.length
 ·rw [ite_t (decide_eq_true (by omega))]
 rw [ite_f (decide_eq_false (by omega)), gd_pos (by unfold rmB; omega), gd_pos (by unfold rmB; omega), List.nil_append]
 obtain ⟨r55, e1⟩ := bits_tot NB a1 (by omega)
 obtain ⟨r60, w, e2, e60, hw1, hw2⟩ := big_tot hN a1 (by omega)
 obtain ⟨r65, e3, hR⟩ := oid_tot (n := NB) (by omega) a1 (by omega)
 obtain ⟨x, hx, hxl⟩ : ∃ x, pBig NB a0 = some x ∧ x.1.length ≤ 1000 := by
  refine ⟨_, pBig_is hN (by omega), ?_⟩
  split
  ·next h => exact bigL_len h
  ·exact Nat.zero_le _
 obtain ⟨C, c1, _, _⟩ := sort_is a2 (List.range a2.length) (n := NB) (by rw [List.length_range]; omega) (by rw [List.length_range]; omega)
 rw [e1, Option.bind_some, e2, Option.bind_some, e3, Option.bind_some, gd_pos (by rw [List.length_range]; omega), c1, Option.bind_some, ite_t (by simp)]
 exact stP_l1 a0 a1 (by omega) r55 r60 r65 (by rw [List.nil_append]; exact stP_l2 hN (by omega) a2 r55 r60 r65 x e60 hw1 hw2 hx hxl hR e1 e2 e3 NB 0 _ (by omega) (by omega)) NB 0 (by omega) (by omega)
end Go.Sx
end
section
namespace Go.Sx
open Go Go.RowKit Go.Ch Go.Proofs.Ytliilihbnhdemaa
end Go.Sx
namespace Go.Proofs.Ytliilihbnhdemaa
open Go.RowKit Go.Ch Go.Sx
theorem primStays_c (w : World) (B0 : Nat) (v0 : Value) (l0 : List UInt32) (hv0 : Sl w B0 v0 (l0.map w32)) (B1 : Nat) (v1 : Value) (l1 : List UInt8) (hv1 : Sl w B1 v1 (l1.map bU)) (v2 : Value) (l2 : List (List UInt8)) (q2 : Pl) (hq2 : v2 = .slice q2.A q2.n q2.cap) (ho2 : ∀ ρ, objR ρ w q2 ⟨.dp false, 22, 1, l2.length, .d (.by 5) l2⟩) :
  Calls Try.prog 13 #[v0, v1, v2] w (Ret fun v' w' => Ext w w' ∧ v' = .bool true) := by
 obtain ⟨p0, a0, b0⟩ := in_w hv0 89
 obtain ⟨p1, a1, b1⟩ := in_b hv1 5
 exact law_of (lPStays_ok NB true) (args := [.c (.wh 0), .c (.wh 1), .c (.wh 2)]) (H := [⟨.ro false, 89, 1, l0.length, .w l0⟩, ⟨.ro false, 5, 1, l1.length, .b l1⟩, ⟨.dp false, 22, 1, l2.length, .d (.by 5) l2⟩]) (ρ := plL [p0, p1, q2]) (vals := [v0, v1, v2]) rfl (allP_cons.2 ⟨lPStays_is l0 l1 l2, allP_nil⟩) trivial (hpL (ps := [p0, p1, q2]) (F2.cons b0 (F2.cons b1 (F2.cons ho2 F2.nil)))) (F2.cons a0 (F2.cons a1 (F2.cons hq2 F2.nil)))
end Go.Proofs.Ytliilihbnhdemaa
end
section
namespace Go.Sx
open Go Go.ChangeShapes Go.WideShapes Go.RowKit Go.Ch
def bInt (P : Program) (k : IntKind) (t : TypeId) : Bool := match P.underlying t with | some (.int k') => decide (k' = k) | _ => false
def bSlI (P : Program) (k : IntKind) (t : TypeId) : Bool := match P.underlying t with | some (.slice e) => bInt P k e && P.cellsOf e == 1 | _ => false
def bSl (P : Program) (sz : Nat) (f : TypeId → Bool) (t : TypeId) : Bool := match P.underlying t with | some (.slice e) => P.cellsOf e == sz && f e | _ => false
def bF1 (P : Program) (sz : Nat) (f : TypeId → Bool) (fs : List Field) (off : Nat) : Bool := match fs with | [g] => g.offset == off && P.cellsOf g.type == sz && f g.type | _ => false
def bPr (P : Program) (sa : Nat) (f : TypeId → Bool) (g : List Field → Nat → Bool) (fs : List Field) (off : Nat) : Bool := match fs with | h :: r => h.offset == off && P.cellsOf h.type == sa && f h.type && g r (off + sa) | _ => false
def bSt (P : Program) (sz : Nat) (f : List Field → Nat → Bool) (t : TypeId) : Bool := match P.underlying t with | some (.struct fs) => P.cellsOf t == sz && f fs.toList 0 | _ => false
structure Shb where
 t : TypeId → Bool
 f : List Field → Nat → Bool
def shB1 (P : Program) (sz : Nat) (f : TypeId → Bool) : Shb := ⟨f, bF1 P sz f⟩
def shB (P : Program) : Dsh → Shb
 | .u8 => shB1 P 1 (bInt P .u8)
 | .u32 => shB1 P 1 (bInt P .u32)
 | .i64 => shB1 P 1 (bInt P .i64)
 | .by _ => shB1 P 1 (bSlI P .u8)
 | .wo _ => shB1 P 1 (bSlI P .u32)
 | .sl _ x => shB1 P 1 (bSl P x.sz (shB P x).t)
 | .pr a b => ⟨bSt P (a.sz + b.sz) (bPr P a.sz (shB P a).t (shB P b).f), bPr P a.sz (shB P a).t (shB P b).f⟩
section
variable {H : Type} {enc : TypeId × Value → H} {P : Program} {W : World} {base : Nat} {held : Bool}
def OpE (enc : TypeId × Value → H) (P : Program) (W : World) (base : Nat) (held : Bool) (x : Dsh) (t : TypeId) : Prop := ∀ (fuel : Nat) (cs : List Value) (y : DataW H × List MemPlace), DataW.trod enc P W base (fun _ => true) held fuel t cs = some y → ∃ v, RdE W x cs v
theorem op_int {k : IntKind} {t : TypeId} (ht : P.underlying t = some (.int k)) {fuel : Nat} {cs : List Value} {y : DataW H × List MemPlace} (h : DataW.trod enc P W base (fun _ => true) held fuel t cs = some y) : ∃ n, cs = [.int k n] ∧ (Lit.int k n).wf = true := by
 obtain ⟨n, h1, _, h2⟩ := DataW.trod_int ht h
 exact ⟨n, h1, h2⟩
theorem op_u8 {t : TypeId} (ht : P.underlying t = some (.int .u8)) : OpE enc P W base held .u8 t := fun fuel cs y h => by
 obtain ⟨n, rfl, hw⟩ := op_int ht h
 refine ⟨UInt8.ofNat n.toNat, RdE.s1 (fun gv hg => ?_) rfl⟩
 show gv _ = bU _
 rw [hg]
 simp [Lit.wf, IntKind.min, IntKind.max, IntKind.signed, IntKind.bits] at hw
 unfold bU
 congr 1
 simp
 omega
theorem op_u32 {t : TypeId} (ht : P.underlying t = some (.int .u32)) : OpE enc P W base held .u32 t := fun fuel cs y h => by
 obtain ⟨n, rfl, hw⟩ := op_int ht h
 obtain ⟨x, hx⟩ := u32_of_int hw
 exact ⟨x, RdE.s1 (fun gv hg => by show gv _ = w32 _; rw [hg, hx]) rfl⟩
theorem op_i64 {t : TypeId} (ht : P.underlying t = some (.int .i64)) : OpE enc P W base held .i64 t := fun fuel cs y h => by
 obtain ⟨n, rfl, hw⟩ := op_int ht h
 exact ⟨n, RdE.s1 (fun gv hg => by show gv _ = _; rw [hg]) rfl⟩
theorem op_by {t e : TypeId} (e' : TypeId) (ht : P.underlying t = some (.slice e)) (he : P.underlying e = some (.int .u8)) (hc : P.cellsOf e = 1) : OpE enc P W base held (.by e') t := fun fuel cs y h => by
 rcases open_ints ht he hc h with ⟨rfl, _⟩ | ⟨x, l, c, zs, rfl, _, hl, hm, hz, _, hcell, hwz⟩
 ·exact ⟨[], RdE.by e' (sl_of_row (k := .u8) (w := W) (zs := []) (.inl ⟨rfl, rfl, rfl, rfl⟩)).1⟩
 ·obtain ⟨h1, h2⟩ := sl_of_row (k := .u8) (w := W) (zs := zs) (.inr ⟨_, rfl, hl, hm, by simpa using hz, hcell, hwz⟩)
  obtain ⟨l, hl⟩ := bytes_of_ints h2
  exact ⟨l, RdE.by e' (by rw [← hl]; exact h1)⟩
theorem op_wo {t e : TypeId} (e' : TypeId) (ht : P.underlying t = some (.slice e)) (he : P.underlying e = some (.int .u32)) (hc : P.cellsOf e = 1) : OpE enc P W base held (.wo e') t := fun fuel cs y h => by
 rcases open_ints ht he hc h with ⟨rfl, _⟩ | ⟨x, l, c, zs, rfl, _, hl, hm, hz, _, hcell, hwz⟩
 ·exact ⟨[], RdE.wo e' (sl_of_row (k := .u32) (w := W) (zs := []) (.inl ⟨rfl, rfl, rfl, rfl⟩)).1⟩
 ·obtain ⟨h1, h2⟩ := sl_of_row (k := .u32) (w := W) (zs := zs) (.inr ⟨_, rfl, hl, hm, by simpa using hz, hcell, hwz⟩)
  obtain ⟨l, hl, _⟩ := words_of_ints h2
  exact ⟨l, RdE.wo e' (by rw [← hl]; exact h1)⟩
def w2 (W : World) (a : Addr) (off n : Nat) (vs : List Value) : Prop := vs.length = n ∧ ∀ j u, vs[j]? = some u → W.cell? ((a.add off).add j) = some u
theorem w2_of {W : World} {base : Nat} {a : Addr} {off n : Nat} {vs : List Value} (h : W.cells? base (a.add off) n = some vs) : w2 W a off n vs := by
 obtain ⟨_, h1, h2⟩ := World.cells?_some h
 refine ⟨h1, fun j u hu => ?_⟩
 have hj : j < n := by rw [← h1]; exact (List.getElem?_eq_some_iff.1 hu).1
 rw [h2 j hj]; exact hu
theorem op_sl {t e : TypeId} {x : Dsh} (e' : TypeId) (ht : P.underlying t = some (.slice e)) (hc : P.cellsOf e = x.sz) (hx : OpE enc P W base held x e) : OpE enc P W base held (.sl e' x) t := fun fuel cs y h => by
 have hpos := x.sz_pos
 rcases DataW.trod_slice ht h with ⟨rfl, _⟩ | ⟨a, len, cap, elems, rest, n, rfl, rfl, _, hb, hl, hm, hlen, hel, _⟩
 ·refine ⟨([] : List x.T), RdE.sl0 e' (F := fun _ => False) (gv := fun _ => .slice none 0 0) rfl (fun g hg => hg.elim) ⟨none, 0, rfl, Nat.le_refl _, by simp [maxLen], fun _ => rfl, fun ad ha _ => (nomatch ha), fun k y hy => (nomatch hy)⟩⟩
 ·have each : ∀ i, i < len → ∃ vs : List Value, w2 W a (i * x.sz) x.sz vs ∧ ∃ v, RdE W x vs v := fun i hi => by
   have h1 := hel i hi
   rw [List.getElem?_eq_getElem (by omega), hc] at h1
   cases hcs : W.cells? base (a.add (i * x.sz)) x.sz with
   | none => rw [hcs] at h1; cases h1
   | some vs =>
    rw [hcs] at h1
    exact ⟨vs, w2_of hcs, hx n vs _ h1⟩
  have each' : ∀ i, ∃ p : List Value × x.T, i < len → w2 W a (i * x.sz) x.sz p.1 ∧ RdE W x p.1 p.2 := fun i => by
   by_cases hi : i < len
   ·obtain ⟨vs, h1, v, h2⟩ := each i hi
    exact ⟨(vs, v), fun _ => ⟨h1, h2⟩⟩
   ·exact ⟨([], x.df), fun h => absurd h hi⟩
  obtain ⟨pf, hpf⟩ := Classical.axiomOfChoice each'
  let l : List x.T := (List.range len).map fun i => (pf i).2
  have hll : l.length = len := by simp [l]
  let vs : List Value := (List.range (len * x.sz)).map fun j => (pf (j / x.sz)).1.getD (j % x.sz) undef
  have hvl : vs.length = len * x.sz := by simp [vs]
  have hvs : ∀ k g, k < len → g < x.sz → vs[k * x.sz + g]? = (pf k).1[g]? := fun k g hk hg => by
   have h1 : k * x.sz + g < len * x.sz := by
    have := Nat.mul_le_mul_right x.sz (show k + 1 ≤ len by omega)
    rw [Nat.add_mul, Nat.one_mul] at this; omega
   have e1 : (k * x.sz + g) / x.sz = k := by rw [Nat.add_comm, Nat.add_mul_div_right _ _ hpos, Nat.div_eq_of_lt hg, Nat.zero_add]
   have e2 : (k * x.sz + g) % x.sz = g := by rw [Nat.add_comm, Nat.add_mul_mod_self_right, Nat.mod_eq_of_lt hg]
   have hlen2 := ((hpf k hk).1).1
   show ((List.range (len * x.sz)).map fun j => (pf (j / x.sz)).1.getD (j % x.sz) undef)[k * x.sz + g]? = _
   rw [List.getElem?_map, List.getElem?_range h1]
   show some ((pf ((k * x.sz + g) / x.sz)).1.getD ((k * x.sz + g) % x.sz) undef) = _
   rw [e1, e2, List.getD_eq_getElem?_getD, List.getElem?_eq_getElem (by omega)]; rfl
  obtain ⟨F, gv, g1, g2, g3⟩ := DR.mk (w := W) (x := x) (l := l) (A := some a) (cap := cap) e' (by rw [hll]; exact hl) hm (fun h => nomatch h) vs (fun ad had j u hu => by
   injection had with had; subst had
   have hj : j < len * x.sz := by rw [← hvl]; exact (List.getElem?_eq_some_iff.1 hu).1
   have hk : j / x.sz < len := Nat.div_lt_of_lt_mul (by rw [Nat.mul_comm]; exact hj)
   have hg : j % x.sz < x.sz := Nat.mod_lt _ hpos
   have := hvs _ _ hk hg
   rw [Nat.div_add_mod'] at this
   rw [this] at hu
   have h3 := ((hpf _ hk).1).2 _ u hu
   rwa [add_add, Nat.div_add_mod'] at h3) (by rw [hvl, hll]) (fun k y hy => by
   have hk : k < len := by rw [← hll]; exact (List.getElem?_eq_some_iff.1 hy).1
   have hy' : y = (pf k).2 := by
    have : l[k]? = some y := hy
    simp only [l, List.getElem?_map, List.getElem?_range hk, Option.map_some, Option.some.injEq] at this
    exact this.symm
   subst hy'
   obtain ⟨F, gv, d1, d2, d3⟩ := (hpf k hk).2
   exact ⟨F, gv, fun g hg => by rw [d1 g hg, hvs k g hk hg], d2, d3⟩)
  exact ⟨l, RdE.sl0 e' (g1.trans (by rw [hll])) g2 g3⟩
theorem op_struct {t : TypeId} {fs : Array Field} {x : Dsh} (ht : P.underlying t = some (.struct fs)) (hx : ∀ (cs : List Value), cs.length = P.cellsOf t → (∀ f ∈ fs.toList, ∃ n y, DataW.trod enc P W base (fun _ => true) held n f.type ((cs.drop f.offset).take (P.cellsOf f.type)) = some y) → ∃ v, RdE W x cs v) : OpE enc P W base held x t := fun fuel cs y h => by
 obtain ⟨xs, n, _, _, hl, hxl, hel⟩ := DataW.trod_struct ht h
 refine hx cs hl fun f hf => ?_
 obtain ⟨i, hi⟩ := List.mem_iff_getElem?.1 hf
 have h1 := hel i f (by rw [← Array.getElem?_toList]; exact hi)
 have hlt : i < xs.length := by rw [hxl, ← Array.length_toList]; exact (List.getElem?_eq_some_iff.1 hi).1
 rw [List.getElem?_eq_getElem hlt] at h1
 exact ⟨n, _, h1⟩
def OpF (enc : TypeId × Value → H) (P : Program) (W : World) (base : Nat) (held : Bool) (x : Dsh) (fs : List Field) (off : Nat) : Prop := ∀ (cs : List Value), off + x.sz ≤ cs.length → (∀ f ∈ fs, ∃ n y, DataW.trod enc P W base (fun _ => true) held n f.type ((cs.drop f.offset).take (P.cellsOf f.type)) = some y) → ∃ v, RdE W x ((cs.drop off).take x.sz) v
theorem op_f1 {x : Dsh} {f : Field} {off : Nat} (h1 : f.offset = off) (h2 : P.cellsOf f.type = x.sz) (hx : OpE enc P W base held x f.type) : OpF enc P W base held x [f] off := fun cs _ hf => by
 obtain ⟨n, y, h⟩ := hf f (by simp)
 rw [h1, h2] at h
 exact hx n _ y h
theorem op_f2 {a b : Dsh} {f : Field} {fs : List Field} {off : Nat} (h1 : f.offset = off) (h2 : P.cellsOf f.type = a.sz) (ha : OpE enc P W base held a f.type) (hb : OpF enc P W base held b fs (off + a.sz)) : OpF enc P W base held (.pr a b) (f :: fs) off := fun cs hl hf => by
 have hl' : off + (a.sz + b.sz) ≤ cs.length := hl
 obtain ⟨v, hv⟩ := op_f1 h1 h2 ha cs (by omega) (fun g hg => hf g (by simp at hg; simp [hg]))
 obtain ⟨u, hu⟩ := hb cs (by omega) (fun g hg => hf g (by simp [hg]))
 refine ⟨(v, u), RdE.pr ?_ ?_⟩
 ·rw [List.take_take]
  have : min a.sz (Dsh.pr a b).sz = a.sz := by show min a.sz (a.sz + b.sz) = _; omega
  rw [this]; exact hv
 ·rw [List.drop_take, List.drop_drop]
  have : (Dsh.pr a b).sz - a.sz = b.sz := by show a.sz + b.sz - a.sz = _; omega
  rw [this]; exact hu
structure OpOk (enc : TypeId × Value → H) (P : Program) (W : World) (base : Nat) (held : Bool) (x : Dsh) (s : Shb) : Prop where
 t : ∀ t, s.t t = true → OpE enc P W base held x t
 f : ∀ fs off, s.f fs off = true → OpF enc P W base held x fs off
theorem bInt_ok {k : IntKind} {t : TypeId} (h : bInt P k t = true) : P.underlying t = some (.int k) := by
 unfold bInt at h
 split at h
 ·rename_i k' hk; rw [hk, of_decide_eq_true h]
 ·cases h
theorem bSlI_ok {k : IntKind} {t : TypeId} (h : bSlI P k t = true) : ∃ e, P.underlying t = some (.slice e) ∧ P.underlying e = some (.int k) ∧ P.cellsOf e = 1 := by
 unfold bSlI at h
 split at h
 ·rename_i e he
  simp only [Bool.and_eq_true, beq_iff_eq] at h
  exact ⟨e, he, bInt_ok h.1, h.2⟩
 ·cases h
theorem op1 {x : Dsh} {f : TypeId → Bool} (hx : x.sz = 1) (h : ∀ t, f t = true → OpE enc P W base held x t) : OpOk enc P W base held x (shB1 P 1 f) := by
 refine ⟨h, fun fs off hf => ?_⟩
 have hf' : bF1 P 1 f fs off = true := hf
 unfold bF1 at hf'
 split at hf'
 ·simp only [Bool.and_eq_true, beq_iff_eq] at hf'
  exact op_f1 hf'.1.1 (hf'.1.2.trans hx.symm) (h _ hf'.2)
 ·cases hf'
theorem opPr {a b : Dsh} {s s' : Shb} (ha : OpOk enc P W base held a s) (hb : OpOk enc P W base held b s') (fs : List Field) (off : Nat) (h : bPr P a.sz s.t s'.f fs off = true) : OpF enc P W base held (.pr a b) fs off := by
 unfold bPr at h
 split at h
 ·simp only [Bool.and_eq_true, beq_iff_eq] at h
  exact op_f2 h.1.1.1 h.1.1.2 (ha.t _ h.1.2) (hb.f _ _ h.2)
 ·cases h
theorem opP2 {a b : Dsh} {s s' : Shb} (ha : OpOk enc P W base held a s) (hb : OpOk enc P W base held b s') : OpOk enc P W base held (.pr a b) ⟨bSt P (a.sz + b.sz) (bPr P a.sz s.t s'.f), bPr P a.sz s.t s'.f⟩ := by
 refine ⟨fun t h => ?_, fun fs off h => opPr ha hb fs off h⟩
 have h' : bSt P (a.sz + b.sz) (bPr P a.sz s.t s'.f) t = true := h
 unfold bSt at h'
 split at h'
 ·rename_i fs ht
  simp only [Bool.and_eq_true, beq_iff_eq] at h'
  refine op_struct ht fun cs hl hf => ?_
  have := opPr ha hb _ 0 h'.2 cs (by show 0 + (a.sz + b.sz) ≤ _; omega) hf
  rw [List.drop_zero, List.take_of_length_le (by rw [hl, h'.1]; exact Nat.le_refl _)] at this
  exact this
 ·cases h'
theorem op_of : ∀ (x : Dsh), OpOk enc P W base held x (shB P x)
 | .u8 => op1 rfl fun _ h => op_u8 (bInt_ok h)
 | .u32 => op1 rfl fun _ h => op_u32 (bInt_ok h)
 | .i64 => op1 rfl fun _ h => op_i64 (bInt_ok h)
 | .by e => op1 rfl fun _ h => by obtain ⟨_, h1, h2, h3⟩ := bSlI_ok h; exact op_by e h1 h2 h3
 | .wo e => op1 rfl fun _ h => by obtain ⟨_, h1, h2, h3⟩ := bSlI_ok h; exact op_wo e h1 h2 h3
 | .sl e x => op1 rfl fun _ h => by
  unfold bSl at h
  split at h
  ·rename_i ht
   simp only [Bool.and_eq_true, beq_iff_eq] at h
   exact op_sl e ht h.1 ((op_of x).t _ h.2)
  ·cases h
 | .pr a b => opP2 (op_of a) (op_of b)
theorem open_deep {x : Dsh} {e t : TypeId} {v : Value} {d : DataW H} {p : List MemPlace} (hb : (shB P (.sl e x)).t t = true) (hv : v.cells = #[v]) (h : DataW.Trod enc P W base (fun _ => true) held t v d p) :
  ∃ (l : List x.T) (q : Pl), v = .slice q.A q.n q.cap ∧ ∀ ρ, objR ρ W q ⟨.dp false, e, x.sz, l.length, .d x l⟩ := by
 obtain ⟨m, hm⟩ := h
 rw [hv] at hm
 obtain ⟨l, hl⟩ := (op_of (enc := enc) (P := P) (W := W) (base := base) (held := held) (.sl e x)).t t hb m _ _ hm
 obtain ⟨q, h1, h2⟩ := RdE.root (fun _ h => h) hl e
 exact ⟨l, q, h1, h2⟩
end
end Go.Sx
end
