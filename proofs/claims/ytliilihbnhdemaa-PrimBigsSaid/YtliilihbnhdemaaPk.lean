import Derived.Test.YtliilihbnhdemaaPu
import Derived.Test.YtliilihbnhdemaaNw
import Derived.Test.YtliilihbnhdemaaPb
set_option linter.unusedVariables false
set_option linter.unusedSimpArgs false
namespace Go.Sx
open Go Go.RowKit Go.Ch Go.Proofs.Ytliilihbnhdemaa
theorem wpos {l : List UInt32} (h : l.length ≠ 0) : nV l = nV (l.take (l.length - 1)) + 4294967296 ^ (l.length - 1) * (l.getD (l.length - 1) 0).toNat := by
  have h1 := V_take l (l.length - 1) (by omega)
  rwa [show l.length - 1 + 1 = l.length by omega, List.take_length] at h1
theorem lastD {l : List UInt32} (h : l ≠ []) : l.getLast h = l.getD (l.length - 1) 0 := by
  have : l.length - 1 < l.length := by have := List.length_pos_iff.2 h; omega
  rw [List.getLast_eq_getElem, List.getD_eq_getElem?_getD, List.getElem?_eq_getElem this]; rfl
theorem ptrim_l1_is (n : Nat) : ∀ (fu : Nat) (w : List UInt32), w.length < fu → w.length ≤ 1000000 → ptrim_l1 n fu w w.length = some (nD (nV w), (nD (nV w)).length) := by
  intro fu
  induction fu with
  | zero => intro w h; omega
  | succ fu ih =>
    intro w hf hw
    by_cases h0 : w.length = 0
    · obtain rfl := List.eq_nil_of_length_eq_zero h0
      rw [ptrim_l1, ite_f (by simp), V_nil, D_zero]; try rfl
    · have e : (((w.length : Nat) : Int) - 1).toNat = w.length - 1 := by omega
      rw [ptrim_l1, ite_t (by simp; omega), gd_pos (okI64 (by omega) (by omega)), gd_pos (by omega), gd_pos (by omega), e]
      by_cases hz : w.getD (w.length - 1) 0 = 0
      · have hl : ((w.drop 0).take (w.length - 1)).length = w.length - 1 := by simp
        have hV := wpos h0
        rw [hz] at hV
        rw [ite_t (by rw [hz]; rfl), gd_pos (okI64 (by omega) (by omega)), gd_pos (by omega), gd_pos (by omega)]
        have := ih ((w.drop 0).take (w.length - 1)) (by omega) (by omega)
        rw [hl] at this
        rw [this, List.drop_zero, hV]; rfl
      · rw [ite_f (by simp only [beq_eq_false_iff_ne]; exact hz)]
        rw [D_V (fun hn => by rw [lastD hn]; exact hz)]
theorem ptrim_is {n : Nat} (hn : 18446744073709551616 ≤ n) {a : List UInt32} (ha : a.length ≤ 1000000) : ptrim n a = some (nD (nV a), (nD (nV a)).length) := ptrim_l1_is n n a (by omega) ha
/-- what is handed in: at most k limbs -/
theorem D_le {a : List UInt32} : (nD (nV a)).length ≤ a.length := (D_len _ _).2 (V_lt a)
/-- the i-th limb, 0 behind -/
theorem V_take' (l : List UInt32) (i : Nat) : nV (l.take (i + 1)) = nV (l.take i) + 4294967296 ^ i * (l.getD i 0).toNat := by
  by_cases h : i < l.length
  · exact V_take l i h
  · rw [List.take_of_length_le (by omega), List.take_of_length_le (by omega), List.getD_eq_getElem?_getD, List.getElem?_eq_none (by omega)]; simp
theorem u64_32 (x : UInt32) : x.toUInt64.toNat = x.toNat := UInt32.toNat_toUInt64 x
theorem u32_64 (x : UInt64) : x.toUInt32.toNat = x.toNat % 4294967296 := UInt64.toNat_toUInt32 x
theorem getD_set_ne {α : Type} {z : α} (l : List α) {i k : Nat} (x : α) (h : i ≠ k) : (l.set i x).getD k z = l.getD k z := by
  rw [List.getD_eq_getElem?_getD, List.getD_eq_getElem?_getD, List.getElem?_set_ne h]
theorem getD_set_eq {α : Type} {z : α} (l : List α) {i : Nat} (x : α) (h : i < l.length) : (l.set i x).getD i z = x := by
  rw [List.getD_eq_getElem?_getD, List.getElem?_set_self h]; rfl
theorem shr32_is (x : UInt32) (k : Nat) (h : k < 32) : (shr32 x (k : Int)).toNat = x.toNat / 2 ^ k := by
  unfold shr32
  rw [if_pos (by omega), Int.toNat_natCast, UInt32.toNat_shiftRight]
  have : (UInt32.ofNat k).toNat % 32 = k := by simp; omega
  rw [this, Nat.shiftRight_eq_div_pow]
/-- a limb moved up -/
theorem shl32_or (o x : UInt32) (s : Nat) (hs : s < 32) (ho : o.toNat < 2 ^ s) : (o ||| shl32 x (s : Int)).toNat = o.toNat + x.toNat * 2 ^ s % 4294967296 := by
  have hX := u32_lt x
  have e : (shl32 x (s : Int)).toNat = x.toNat * 2 ^ s % 4294967296 := by
    unfold shl32
    rw [if_pos (by omega), Int.toNat_natCast, UInt32.toNat_shiftLeft]
    have : (UInt32.ofNat s).toNat % 32 = s := by simp; omega
    rw [this, Nat.shiftLeft_eq]
  have e2 : x.toNat * 2 ^ s % 4294967296 = (x.toNat % 2 ^ (32 - s)) <<< s := by
    rw [Nat.shiftLeft_eq, show (4294967296 : Nat) = 2 ^ (32 - s) * 2 ^ s by rw [← Nat.pow_add, show 32 - s + s = 32 by omega], Nat.mul_mod_mul_right]
  rw [UInt32.toNat_or, e, e2, Nat.or_comm, ← Nat.shiftLeft_add_eq_or_of_lt ho, Nat.add_comm]
theorem shr_shl (x : UInt32) (s : Nat) (hs : s ≤ 32) : (shl64 x.toUInt64 (s : Int)).toNat = x.toNat * 2 ^ s := by
  have hX := u32_lt x
  unfold shl64
  rw [if_pos (by omega), Int.toNat_natCast, UInt64.toNat_shiftLeft, u64_32]
  have : (UInt64.ofNat s).toNat % 64 = s := by simp; omega
  rw [this, Nat.shiftLeft_eq, Nat.mod_eq_of_lt]
  have h1 : 2 ^ s ≤ 2 ^ 32 := Nat.pow_le_pow_right (by decide) hs
  have h2 := Nat.mul_le_mul (show _ ≤ 4294967295 from Nat.le_of_lt_succ hX) h1
  omega
theorem ofInt32 (t : Int) : (UInt32.ofInt t).toNat = (t % 4294967296).toNat := by
  simp [UInt32.ofInt]; omega
theorem zpos {l : List Int} (h : l.length ≠ 0) : nZ l = nZ (l.take (l.length - 1)) + 65536 ^ (l.length - 1) * (l.getD (l.length - 1) 0).toNat := by
  have h1 := Z_take l (l.length - 1) (by omega)
  rwa [show l.length - 1 + 1 = l.length by omega, List.take_length] at h1
theorem lastZ {l : List Int} (h : l ≠ []) : l.getLast h = l.getD (l.length - 1) 0 := by
  have : l.length - 1 < l.length := by have := List.length_pos_iff.2 h; omega
  rw [List.getLast_eq_getElem, List.getD_eq_getElem?_getD, List.getElem?_eq_getElem this]; rfl
theorem Dz.get {l : List Int} (h : Dz l) (i : Nat) : 0 ≤ l.getD i 0 ∧ l.getD i 0 < 65536 := by
  by_cases hi : i < l.length
  · rw [List.getD_eq_getElem?_getD, List.getElem?_eq_getElem hi]; exact h _ (List.getElem_mem hi)
  · rw [List.getD_eq_getElem?_getD, List.getElem?_eq_none (by omega)]; decide
theorem Dz.take {l : List Int} (h : Dz l) (i : Nat) : Dz (l.take i) := fun x hx => h x (List.mem_of_mem_take hx)
theorem Dz.app {l m : List Int} (h : Dz l) (h2 : Dz m) : Dz (l ++ m) := fun x hx => (List.mem_append.1 hx).elim (h x) (h2 x)
theorem Dz.one {x : Int} (h : 0 ≤ x ∧ x < 65536) : Dz [x] := fun y hy => by rw [List.mem_singleton.1 hy]; exact h
theorem Dz.nil : Dz [] := fun x hx => by cases hx
theorem Dz.rep (n : Nat) : Dz (List.replicate n 0) := fun x hx => by rw [(List.mem_replicate.1 hx).2]; decide
theorem Dz.set {l : List Int} (h : Dz l) {x : Int} (hx : 0 ≤ x ∧ x < 65536) (i : Nat) : Dz (l.set i x) := fun y hy => (List.mem_or_eq_of_mem_set hy).elim (h y) fun e => by rw [e]; exact hx
theorem rtrim_l1_is (n : Nat) (a : List Int) (hd : Dz a) (ha : a.length ≤ 1000000) : ∀ (k fu : Nat), k < fu → k ≤ a.length → nZ (a.take k) = nZ a →
    ∃ m, rtrim_l1 n a fu (k : Int) = some (a, m) ∧ a.take m = nE (nZ a) ∧ m = (nE (nZ a)).length := by
  intro k
  have fin : ∀ k, k ≤ a.length → a.take k = nE (nZ a) → k = (nE (nZ a)).length := fun k h1 h2 => by rw [← h2, List.length_take]; omega
  induction k with
  | zero =>
    intro fu hf hk he
    cases fu with
    | zero => omega
    | succ fu =>
      have h0 : nZ a = 0 := by rw [← he]; rfl
      have h1 : a.take 0 = nE (nZ a) := by rw [h0, E_zero]; rfl
      exact ⟨0, by rw [rtrim_l1, ite_f (by simp), gd_pos (by omega), gd_pos (by omega)]; rfl, h1, fin 0 hk h1⟩
  | succ k ih =>
    intro fu hf hk he
    cases fu with
    | zero => omega
    | succ fu =>
      have e : (((k + 1 : Nat) : Int) - 1) = (k : Int) := by omega
      rw [rtrim_l1, ite_t (by simp <;> omega), e, gd_pos (okI64 (by omega) (by omega)), gd_pos (by omega), gd_pos (by omega), Int.toNat_natCast]
      have h1 := Z_take a k (by omega)
      by_cases hz : a.getD k 0 = 0
      · rw [ite_t (by rw [hz]; rfl), gd_pos (okI64 (by omega) (by omega))]
        rw [hz] at h1
        exact ih fu (by omega) (by omega) (by rw [← he, h1]; rfl)
      · rw [ite_f (by simp only [beq_eq_false_iff_ne]; exact hz), gd_pos (by omega), gd_pos (by omega)]
        have hl : (a.take (k + 1)).length = k + 1 := by rw [List.length_take]; omega
        have h2 : a.take (k + 1) = nE (nZ a) := by
          rw [← he]
          refine (E_Z (hd.take _) fun hn => ?_).symm
          rw [lastZ hn, hl, Nat.add_sub_cancel, List.getD_eq_getElem?_getD, List.getElem?_take_of_lt (by omega), ← List.getD_eq_getElem?_getD]
          exact hz
        exact ⟨k + 1, by rw [show (((k + 1 : Nat) : Int)).toNat = k + 1 by omega], h2, fin _ hk h2⟩
theorem rtrim_is {n : Nat} (hn : 18446744073709551616 ≤ n) {a : List Int} (hd : Dz a) (ha : a.length ≤ 1000000) : rtrim n a = some (a, (nE (nZ a)).length) ∧ (a.drop 0).take (nE (nZ a)).length = nE (nZ a) := by
  obtain ⟨m, h1, h2, h3⟩ := rtrim_l1_is n a hd ha a.length n (by omega) (Nat.le_refl _) (by rw [List.take_length])
  subst h3
  exact ⟨h1, h2⟩
/-- the document's numbers of limbs -/
theorem rOf_l1_is {n : Nat} (hn : 18446744073709551616 ≤ n) (a : List UInt32) (ha : a.length ≤ 100000) : ∀ (m i fu : Nat) (z : List Int), i + m = a.length → m < fu → z.length = 2 * i → Dz z → nZ z = nV (a.take i) →
    rOf_l1 n a fu z (i : Int) = some (nE (nV a), (nE (nV a)).length) := by
  intro m
  induction m with
  | zero =>
    intro i fu z hi hf hz hd he
    cases fu with
    | zero => omega
    | succ fu =>
      rw [List.take_of_length_le (by omega)] at he
      obtain ⟨h1, h2⟩ := rtrim_is hn hd (by omega)
      rw [rOf_l1, ite_f (by simp <;> omega), h1]
      simp only [Option.bind_some]
      rw [h2, he]
  | succ m ih =>
    intro i fu z hi hf hz hd he
    cases fu with
    | zero => omega
    | succ fu =>
      rw [rOf_l1, ite_t (by simp <;> omega), gd_pos (by omega), gd_pos (by omega), gd_pos (by decide), gd_pos (by omega), gd_pos (by omega), gd_pos (by decide), gd_pos (by unfold rmB; omega), gd_pos (okI64 (by omega) (by omega)), Int.toNat_natCast]
      have hX := u32_lt (a.getD i 0)
      have e1 : (a.getD i 0 % 65536).toNat = (a.getD i 0).toNat % 65536 := UInt32.toNat_mod _ _
      have e2 : (a.getD i 0 / 65536).toNat = (a.getD i 0).toNat / 65536 := UInt32.toNat_div _ _
      rw [e1, e2]
      refine ih (i + 1) fu _ (by omega) (by omega) (by simp <;> omega) (hd.app (by
        intro x hx
        rcases List.mem_cons.1 hx with rfl | hx
        · omega
        · rw [List.mem_singleton.1 hx]; omega)) ?_
      rw [Z_app, he, V_take', hz, Z_cons, Z_cons, Z_nil, Int.toNat_natCast, Int.toNat_natCast, Nat.pow_mul]
      have hdm := Nat.mod_add_div (a.getD i 0).toNat 65536
      show _ + 4294967296 ^ i * _ = _
      generalize (a.getD i 0).toNat % 65536 = x at *
      generalize (a.getD i 0).toNat / 65536 = y at *
      rw [← hdm]; rfl
theorem rOf_is {n : Nat} (hn : 18446744073709551616 ≤ n) {a : List UInt32} (ha : a.length ≤ 100000) : rOf n a = some (nE (nV a), (nE (nV a)).length) :=
  rOf_l1_is hn a ha a.length 0 n [] (by omega) (by omega) rfl Dz.nil rfl
theorem E64 (v : Nat) : (nE v).length ≤ 128 ↔ (nD v).length ≤ 64 := by
  rw [E_len, D_len, show (65536 : Nat) ^ 128 = 4294967296 ^ 64 by rw [show (128 : Nat) = 2 * 64 from rfl, Nat.pow_mul]]
theorem rMay_is {n : Nat} (hn : 18446744073709551616 ≤ n) {a : List UInt32} (ha : a.length ≤ 100000) : rMay n a = some (decide ((nD (nV a)).length ≤ 64)) := by
  unfold rMay
  rw [rOf_is hn ha]
  simp only [Option.bind_some]
  congr 1
  rw [Bool.eq_iff_iff]
  simp only [decide_eq_true_eq, ← E64]
  omega
theorem E_mono {x y : Nat} (h : x ≤ y) : (nE x).length ≤ (nE y).length := (E_len _ _).2 (Nat.lt_of_le_of_lt h ((E_len _ _).1 (Nat.le_refl _)))
/-- a row that is the document's number -/
theorem rTo_l1_is {n : Nat} (hn : 18446744073709551616 ≤ n) (v : Nat) (ha : (nE v).length ≤ 100000) : ∀ (m i fu : Nat) (w : List UInt32), (nE v).length ≤ 2 * i + m → m < fu → 2 * i ≤ (nE v).length + 1 → w.length = i → nV w = nZ ((nE v).take (2 * i)) → (∀ h : w ≠ [], w.getLast h ≠ 0 ∨ 2 * i < (nE v).length) →
    rTo_l1 n (nE v) fu w (2 * (i : Int)) = some (nD v) := by
  have hE := E_dz v
  intro m
  induction m using Nat.strongRecOn with
  | _ m ih =>
    intro i fu w hi hf h2 hw he hlast
    cases fu with
    | zero => omega
    | succ fu =>
      by_cases hlt : 2 * i < (nE v).length
      · have g1 := hE.get (2 * i)
        have g2 := hE.get (2 * i + 1)
        have e0 : (2 * (i : Int)).toNat = 2 * i := by omega
        have e1 : (2 * (i : Int) + 1).toNat = 2 * i + 1 := by omega
        have k1 := Z_take (nE v) (2 * i) hlt
        rw [rTo_l1, ite_t (by simp <;> omega), gd_pos (by omega), gd_pos (by omega), gd_pos (okI64 (by omega) (by omega)), e0, e1]
        by_cases hlt2 : 2 * i + 1 < (nE v).length
        · have k2 := Z_take (nE v) (2 * i + 1) hlt2
          rw [ite_t (by simp <;> omega), gd_pos (okI64 (by omega) (by omega)), gd_pos (by omega), gd_pos (by omega)]
          unfold rTo_j1
          rw [gd_pos (by unfold rmB; omega), gd_pos (okI64 (by omega) (by omega)), show 2 * (i : Int) + 2 = 2 * ((i + 1 : Nat) : Int) by omega]
          have ex : (UInt32.ofInt ((nE v).getD (2 * i) 0) + UInt32.ofInt ((nE v).getD (2 * i + 1) 0) * 65536).toNat = ((nE v).getD (2 * i) 0).toNat + 65536 * ((nE v).getD (2 * i + 1) 0).toNat := by
            rw [UInt32.toNat_add, UInt32.toNat_mul, ofInt32, ofInt32]
            show (_ + _ * 65536 % _) % _ = _
            omega
          refine ih (m - 1) (by omega) (i + 1) fu _ (by omega) (by omega) (by omega) (by simp <;> omega) ?_ ?_
          · rw [V_app, V_cons, V_nil, ex, he, show 2 * (i + 1) = 2 * i + 1 + 1 by omega, k2, k1, hw, Nat.pow_succ, Nat.pow_mul]
            show _ + 4294967296 ^ i * _ = _ + 4294967296 ^ i * _ + 4294967296 ^ i * 65536 * _
            generalize 4294967296 ^ i = p
            grind
          · intro _
            by_cases h3 : 2 * (i + 1) < (nE v).length
            · exact .inr h3
            · left
              rw [List.getLast_concat]
              intro h0
              have h0 := ex.symm.trans (congrArg UInt32.toNat h0)
              have hv0 : nE v ≠ [] := by intro h; rw [h] at hlt; simp at hlt
              have hv1 : v ≠ 0 := by rintro rfl; exact hv0 E_zero
              have h5 : (nE v).getD (2 * i + 1) 0 = 0 := by
                rw [UInt32.toNat_zero] at h0; omega
              have h6 := zpos (l := nE v) (by omega)
              rw [Z_E, show (nE v).length - 1 = 2 * i + 1 by omega, h5] at h6
              have h7 := Z_lt (hE.take (2 * i + 1))
              rw [List.length_take, Nat.min_eq_left (by omega)] at h7
              have := (E_len v (2 * i + 1)).2 (by simp at h6; omega)
              omega
        · rw [ite_f (by simp <;> omega)]
          unfold rTo_j1
          rw [gd_pos (by unfold rmB; omega), gd_pos (okI64 (by omega) (by omega)), show 2 * (i : Int) + 2 = 2 * ((i + 1 : Nat) : Int) by omega]
          have ex : (UInt32.ofInt ((nE v).getD (2 * i) 0)).toNat = ((nE v).getD (2 * i) 0).toNat := by
            rw [ofInt32]; omega
          refine ih (m - 1) (by omega) (i + 1) fu _ (by omega) (by omega) (by omega) (by simp <;> omega) ?_ ?_
          · rw [V_app, V_cons, V_nil, ex, he, List.take_of_length_le (l := nE v) (i := 2 * (i + 1)) (by omega), hw]
            rw [List.take_of_length_le (l := nE v) (i := 2 * i + 1) (by omega), Nat.pow_mul] at k1
            rw [k1]
            show _ + 4294967296 ^ i * _ = _ + 4294967296 ^ i * _
            simp
          · intro _
            left
            rw [List.getLast_concat]
            intro h0
            have h0 := ex.symm.trans (congrArg UInt32.toNat h0)
            have h5 : (nE v).getD (2 * i) 0 = 0 := by
              rw [UInt32.toNat_zero] at h0; omega
            have h6 := zpos (l := nE v) (by omega)
            rw [Z_E, show (nE v).length - 1 = 2 * i by omega, h5] at h6
            have h7 := Z_lt (hE.take (2 * i))
            rw [List.length_take, Nat.min_eq_left (by omega)] at h7
            have := (E_len v (2 * i)).2 (by simp at h6; omega)
            omega
      · rw [rTo_l1, ite_f (by simp <;> omega)]
        rw [List.take_of_length_le (by omega), Z_E] at he
        rw [← he, D_V (fun h => (hlast h).elim id (fun h' => absurd h' hlt))]
theorem rTo_is {n : Nat} (hn : 18446744073709551616 ≤ n) {v : Nat} (ha : (nE v).length ≤ 100000) : rTo n (nE v) = some (nD v) :=
  rTo_l1_is hn v ha (nE v).length 0 n [] (by omega) (by omega) (by omega) rfl rfl (fun h => absurd rfl h)
theorem same_l1 (f : Nat → Int → Option Bool) (a b : List UInt32) (hl : b.length = a.length) (ha : a.length ≤ 1000000)
    (hf : ∀ fu i, f (fu + 1) i = bif (decide (i < ((a.length : Nat) : Int))) then gd (0 ≤ i) (gd (i < ((a.length : Nat) : Int)) (gd (0 ≤ i) (gd (i < ((b.length : Nat) : Int)) (bif ((a.getD i.toNat 0) != (b.getD i.toNat 0)) then some false else gd (okI .i64 (i + 1)) (f fu (i + 1)))))) else some true) :
    ∀ (m i fu : Nat), i + m = a.length → m < fu → a.take i = b.take i → f fu (i : Int) = some (decide (a = b)) := by
  intro m
  induction m with
  | zero =>
    intro i fu hi hfu he
    cases fu with
    | zero => omega
    | succ fu =>
      rw [List.take_of_length_le (by omega), List.take_of_length_le (by omega)] at he
      rw [hf, ite_f (by simp <;> omega)]; simp [he]
  | succ m ih =>
    intro i fu hi hfu he
    cases fu with
    | zero => omega
    | succ fu =>
      rw [hf, ite_t (by simp <;> omega), gd_pos (by omega), gd_pos (by omega), gd_pos (by omega), gd_pos (by omega), Int.toNat_natCast]
      by_cases h : a.getD i 0 = b.getD i 0
      · rw [ite_f (by rw [h]; simp), gd_pos (okI64 (by omega) (by omega))]
        refine ih (i + 1) fu (by omega) (by omega) ?_
        rw [List.take_succ_eq_append_getElem (by omega), List.take_succ_eq_append_getElem (by omega), he]
        rw [List.getD_eq_getElem?_getD, List.getD_eq_getElem?_getD, List.getElem?_eq_getElem (by omega), List.getElem?_eq_getElem (by omega)] at h
        simp only [Option.getD_some] at h
        rw [h]
      · rw [ite_t (by simp only [bne_iff_ne]; exact h)]
        have : a ≠ b := fun e => h (by rw [e])
        simp [this]
theorem rSame_is {n : Nat} (hn : 18446744073709551616 ≤ n) {a : List UInt32} {v : Nat} (ha : a.length ≤ 1000000) (hv : (nE v).length ≤ 100000) : rSame n a (nE v) = some (decide (a = nD v)) := by
  unfold rSame
  rw [rTo_is hn hv]
  simp only [Option.bind_some]
  by_cases h : a.length = (nD v).length
  · rw [ite_f (by rw [h]; simp)]
    exact same_l1 (rSame_l1 n a (nD v)) a (nD v) h.symm ha (fun _ _ => rfl) a.length 0 n (by omega) (by omega) rfl
  · have : a ≠ nD v := fun e => h (by rw [e])
    rw [ite_t (by simp only [bne_iff_ne]; omega)]; simp [this]
theorem E_last {y : Nat} (hy : y ≠ 0) : (nE y).length ≠ 0 ∧ ((nE y).getD ((nE y).length - 1) 0).toNat ≠ 0 := by
  have h1 : (nE y).length ≠ 0 := fun h => by
    have := (E_len y 0).1 (by omega)
    simp at this; omega
  refine ⟨h1, fun h => ?_⟩
  have h2 := zpos h1
  rw [h, Z_E] at h2
  have h3 := Z_lt ((E_dz y).take ((nE y).length - 1))
  rw [List.length_take, Nat.min_eq_left (by omega)] at h3
  have := (E_len y ((nE y).length - 1)).2 (by omega)
  omega
theorem u8_lt (x : UInt8) : x.toNat < 256 := x.toNat_lt
/-- a first byte that says nothing -/
def spare (a : List UInt8) : Bool := ((a.getD 0 0).toNat == 0 && decide ((a.getD 1 0).toNat < 128)) || ((a.getD 0 0).toNat == 255 && decide (128 ≤ (a.getD 1 0).toNat))
theorem u8eq (x : UInt8) (k : Nat) (hk : k < 256) : (x == UInt8.ofNat k) = (x.toNat == k) := by
  rw [Bool.eq_iff_iff]
  simp only [beq_iff_eq, ← UInt8.toNat_inj]
  have : (UInt8.ofNat k).toNat = k := by simp; omega
  rw [this]
theorem pspare_is (n : Nat) {a : List UInt8} (h : 2 ≤ a.length) : pspare n a = some (spare a) := by
  unfold pspare spare
  have e0 : ((a.getD 0 0) == 0) = ((a.getD 0 0).toNat == 0) := u8eq _ 0 (by decide)
  have e1 : ((a.getD 0 0) == 255) = ((a.getD 0 0).toNat == 255) := u8eq _ 255 (by decide)
  have e2 : (decide ((a.getD 1 0) < (128 : UInt8))) = decide ((a.getD 1 0).toNat < 128) := by rw [Bool.eq_iff_iff]; simp only [decide_eq_true_eq]; exact UInt8.lt_iff_toNat_lt
  have e3 : (decide ((128 : UInt8) ≤ (a.getD 1 0))) = decide (128 ≤ (a.getD 1 0).toNat) := by rw [Bool.eq_iff_iff]; simp only [decide_eq_true_eq]; exact UInt8.le_iff_toNat_le
  rw [e0, e1, e2, e3]
  simp only [gd_pos (show (0 : Int) ≤ 0 by omega), gd_pos (show (0 : Int) < ((a.length : Nat) : Int) by omega), gd_pos (show (0 : Int) ≤ 1 by omega), gd_pos (show (1 : Int) < ((a.length : Nat) : Int) by omega)]
  cases h1 : ((a.getD 0 0).toNat == 0) <;> cases h2 : ((a.getD 0 0).toNat == 255) <;> cases h3 : decide ((a.getD 1 0).toNat < 128) <;> simp_all
theorem rNumber_is (n : Nat) (a : List UInt8) : rNumber n a = some (decide (a ≠ []) && !(decide (2 ≤ a.length) && spare a)) := by
  unfold rNumber
  by_cases h0 : a.length = 0
  · have : a = [] := List.eq_nil_of_length_eq_zero h0
    rw [ite_t (by simp [h0])]; simp [this]
  · have hne : a ≠ [] := fun h => h0 (by rw [h]; rfl)
    rw [ite_f (by simp <;> omega)]
    by_cases h1 : a.length = 1
    · rw [ite_t (by simp <;> omega)]; simp [hne, h1]
    · have h2 : 2 ≤ a.length := by omega
      rw [ite_f (by simp <;> omega)]
      unfold spare
      have e0 : ((a.getD 0 0) == 0) = ((a.getD 0 0).toNat == 0) := u8eq _ 0 (by decide)
      have e1 : ((a.getD 0 0) == 255) = ((a.getD 0 0).toNat == 255) := u8eq _ 255 (by decide)
      have e2 : (decide ((a.getD 1 0) < (128 : UInt8))) = decide ((a.getD 1 0).toNat < 128) := by rw [Bool.eq_iff_iff]; simp only [decide_eq_true_eq]; exact UInt8.lt_iff_toNat_lt
      have e3 : (decide ((128 : UInt8) ≤ (a.getD 1 0))) = decide (128 ≤ (a.getD 1 0).toNat) := by rw [Bool.eq_iff_iff]; simp only [decide_eq_true_eq]; exact UInt8.le_iff_toNat_le
      rw [e0, e1, e2, e3]
      simp only [gd_pos (show (0 : Int) ≤ 0 by omega), gd_pos (show (0 : Int) < ((a.length : Nat) : Int) by omega), gd_pos (show (0 : Int) ≤ 1 by omega), gd_pos (show (1 : Int) < ((a.length : Nat) : Int) by omega)]
      cases h4 : ((a.getD 0 0).toNat == 0) <;> cases h5 : ((a.getD 0 0).toNat == 255) <;> cases h3 : decide ((a.getD 1 0).toNat < 128) <;> simp_all
/-! ### bytes, the highest first -/
def nB (l : List UInt8) : Nat := vl 256 UInt8.toNat l.reverse
def dB (v : Nat) : List UInt8 := (dg 256 UInt8.ofNat v).reverse
theorem b_lt (x : UInt8) : x.toNat < 256 := x.toNat_lt
theorem b_of (x : Nat) (h : x < 256) : (UInt8.ofNat x).toNat = x := by simp; omega
theorem nB_dB (v : Nat) : nB (dB v) = v := by unfold nB dB; rw [List.reverse_reverse]; exact vl_dg _ _ _ (by decide) b_of v
theorem dB_len (v k : Nat) : (dB v).length ≤ k ↔ v < 256 ^ k := by unfold dB; rw [List.length_reverse]; exact dg_len _ _ (by decide) v k
theorem nB_lt (l : List UInt8) : nB l < 256 ^ l.length := by
  have := vl_lt 256 UInt8.toNat l.reverse fun x _ => b_lt x
  rwa [List.length_reverse] at this
theorem nB_nil : nB [] = 0 := rfl
theorem nB_cons (x : UInt8) (l : List UInt8) : nB (x :: l) = nB l + 256 ^ l.length * x.toNat := by
  unfold nB
  rw [List.reverse_cons, vl_app, List.length_reverse, vl_cons, vl_nil]; simp
theorem nB_inj : ∀ {a b : List UInt8}, a.length = b.length → nB a = nB b → a = b
  | [], [], _, _ => rfl
  | x :: a, y :: b, hl, h => by
    have hl' : a.length = b.length := by simpa using hl
    rw [nB_cons, nB_cons, hl'] at h
    have h1 := nB_lt a
    have h2 := nB_lt b
    rw [hl'] at h1
    have hp : 0 < 256 ^ b.length := Nat.pow_pos (by decide)
    have e1 : (nB a + 256 ^ b.length * x.toNat) % 256 ^ b.length = nB a := by rw [Nat.add_mul_mod_self_left, Nat.mod_eq_of_lt h1]
    have e2 : (nB b + 256 ^ b.length * y.toNat) % 256 ^ b.length = nB b := by rw [Nat.add_mul_mod_self_left, Nat.mod_eq_of_lt h2]
    have e3 : nB a = nB b := by rw [← e1, h, e2]
    have e4 : x.toNat = y.toNat := by
      rw [e3] at h
      exact Nat.eq_of_mul_eq_mul_left hp (by omega)
    rw [nB_inj hl' e3, UInt8.toNat_inj.1 e4]
  | [], _ :: _, hl, _ => by simp at hl
  | _ :: _, [], hl, _ => by simp at hl
theorem nB_set : ∀ (l : List UInt8) (i : Nat) (x : UInt8), i < l.length → nB (l.set (l.length - 1 - i) x) + 256 ^ i * (l.getD (l.length - 1 - i) 0).toNat = nB l + 256 ^ i * x.toNat
  | [], _, _, h => by simp at h
  | y :: t, i, x, h => by
    by_cases hi : i = t.length
    · subst hi
      have e : (y :: t).length - 1 - t.length = 0 := by simp
      rw [e, List.set_cons_zero, nB_cons, nB_cons]; simp; omega
    · have hi' : i < t.length := by simp at h; omega
      have e : (y :: t).length - 1 - i = (t.length - 1 - i) + 1 := by simp; omega
      have ih := nB_set t i x hi'
      rw [e, List.set_cons_succ, nB_cons, nB_cons, List.getD_cons_succ, List.length_set]; omega
theorem nB_rep (n : Nat) : nB (List.replicate n 0) = 0 := by
  unfold nB; rw [List.reverse_replicate]; exact vl_rep (z := (0 : UInt8)) 256 UInt8.toNat rfl n
theorem mod_step (v i : Nat) : v % 256 ^ (i + 1) = v % 256 ^ i + 256 ^ i * (v / 256 ^ i % 256) := Nat.mod_pow_succ
/-- bytes written from the end on -/
structure Wr (l : List UInt8) (n i v : Nat) : Prop where
  len : l.length = n
  z : ∀ k, k + i < n → l.getD k 0 = 0
  val : nB l = v % 256 ^ i
theorem Wr.start (n v : Nat) : Wr (List.replicate n 0) n 0 v := ⟨by simp, fun k _ => by rw [List.getD_eq_getElem?_getD, List.getElem?_replicate]; split <;> rfl, by rw [nB_rep]; simp [Nat.mod_one]⟩
theorem Wr.step {l : List UInt8} {n i v : Nat} (h : Wr l n i v) (hi : i < n) {x : UInt8} (hx : x.toNat = v / 256 ^ i % 256) : Wr (l.set (n - 1 - i) x) n (i + 1) v := by
  have hl := h.len
  have hs := nB_set l i x (by omega)
  rw [hl, h.z (n - 1 - i) (by omega), h.val] at hs
  refine ⟨by rw [List.length_set]; exact hl, fun k hk => by rw [getD_set_ne _ _ (by omega)]; exact h.z k (by omega), ?_⟩
  rw [mod_step, ← hx]
  simpa using hs
theorem limb_byte (v i : Nat) : v / 4294967296 ^ (i / 4) % 4294967296 / 2 ^ (8 * (i % 4)) % 256 = v / 256 ^ i % 256 := by
  have e1 : (4294967296 : Nat) ^ (i / 4) = 256 ^ (4 * (i / 4)) := by rw [Nat.pow_mul]
  have e2 : (2 : Nat) ^ (8 * (i % 4)) = 256 ^ (i % 4) := by rw [Nat.pow_mul]
  have e3 : (4294967296 : Nat) = 256 ^ (i % 4) * (256 * 256 ^ (3 - i % 4)) := by
    rw [show 256 * 256 ^ (3 - i % 4) = 256 ^ (4 - i % 4) by rw [Nat.mul_comm, ← Nat.pow_succ]; congr 1; omega, ← Nat.pow_add, show i % 4 + (4 - i % 4) = 4 by omega]
  rw [e1, e2]
  conv => lhs; rw [e3]
  rw [Nat.mod_mul_right_div_self, Nat.div_div_eq_div_mul, ← Nat.pow_add, Nat.mod_mul_right_mod, show 4 * (i / 4) + i % 4 = i by omega]
theorem pWrite_l1_is (n : Nat) (v : Nat) (h64 : (nD v).length ≤ 64) : ∀ (m i fu : Nat) (l : List UInt8), i + m = 4 * (nD v).length → m < fu → Wr l 256 i v →
    ∃ r, pWrite_l1 n 256 (nD v, (nD v).length) fu l (i : Int) = some (r, 256, none) ∧ r.length = 256 ∧ nB r = v := by
  intro m
  induction m with
  | zero =>
    intro i fu l hi hf hw
    cases fu with
    | zero => omega
    | succ fu =>
      refine ⟨l, by rw [pWrite_l1, ite_f (by simp <;> omega)]; rfl, hw.len, ?_⟩
      rw [hw.val]
      refine Nat.mod_eq_of_lt ?_
      have := (D_len v (nD v).length).1 (Nat.le_refl _)
      rwa [show (4294967296 : Nat) = 256 ^ 4 from rfl, ← Nat.pow_mul, show 4 * (nD v).length = i by omega] at this
  | succ m ih =>
    intro i fu l hi hf hw
    cases fu with
    | zero => omega
    | succ fu =>
      have t1 : Int.tdiv (i : Int) 4 = ((i / 4 : Nat) : Int) := by rw [Int.tdiv_eq_ediv_of_nonneg (by omega)]; omega
      have t2 : 8 * Int.tmod (i : Int) 4 = ((8 * (i % 4) : Nat) : Int) := by rw [Int.tmod_eq_emod_of_nonneg (by omega)]; omega
      have e1 : ((256 : Int) - 1 - (i : Int)).toNat = 256 - 1 - i := by omega
      rw [pWrite_l1, ite_t (by simp <;> omega), t1, t2, e1, gd_pos (by decide), gd_pos (okI64 (by omega) (by omega)), gd_pos (by omega), gd_pos (by omega), gd_pos (by decide), gd_pos (okI64 (by omega) (by omega)), gd_pos (by omega), ite_t (by simp <;> omega), gd_pos (okI64 (by omega) (by omega)), gd_pos (okI64 (by omega) (by omega)), gd_pos (by omega), gd_pos (by show _ < ((256 : Nat) : Int); omega), Int.toNat_natCast]
      unfold pWrite_j1
      rw [gd_pos (okI64 (by omega) (by omega))]
      refine ih (i + 1) fu _ (by omega) (by omega) (hw.step (by omega) ?_)
      have e2 := shr32_is ((nD v).getD (i / 4) 0) (8 * (i % 4)) (by omega)
      rw [UInt32.toNat_toUInt8, e2, D_get, ← limb_byte]
theorem pWrite_is {n : Nat} (hn : 18446744073709551616 ≤ n) {a : List UInt32} (ha : a.length ≤ 1000000) :
    ∃ r, pWrite n a 256 = some r ∧ (64 < (nD (nV a)).length → r = ([], 0, some 4)) ∧ ((nD (nV a)).length ≤ 64 → r.1.length = 256 ∧ nB r.1 = nV a ∧ r.2.1 = 256 ∧ r.2.2 = none) := by
  unfold pWrite
  rw [ptrim_is hn ha, Option.bind_some]
  by_cases h : (nD (nV a)).length ≤ 64
  · obtain ⟨r, h1, h2, h3⟩ := pWrite_l1_is n (nV a) h (4 * (nD (nV a)).length) 0 n _ (by omega) (by omega) (Wr.start 256 (nV a))
    rw [ite_f (by simp <;> omega), ite_f (by decide), ite_f (by decide), gd_pos (by decide), gd_pos (by decide), gd_pos (by decide), gd_pos (okI64 (by omega) (by omega))]
    exact ⟨_, h1, fun h' => by omega, fun _ => ⟨h2, h3, rfl, rfl⟩⟩
  · rw [ite_t (by simp <;> omega)]
    exact ⟨_, rfl, fun _ => rfl, fun h' => absurd h' h⟩
/-- the body of a long number -/
def bigL (v : Nat) : List UInt8 := if dB v = [] ∨ 128 ≤ ((dB v).getD 0 0).toNat then 0 :: dB v else dB v
theorem dB_of {r : List UInt8} (h : r = [] ∨ (r.getD 0 0).toNat ≠ 0) : dB (nB r) = r := by
  refine nB_inj ?_ (nB_dB _)
  have h1 := nB_lt r
  have h2 := (dB_len (nB r) r.length).2 h1
  refine Nat.le_antisymm h2 ?_
  cases r with
  | nil => simp
  | cons x t =>
    simp only [List.getD_cons_zero] at h
    have hx : x.toNat ≠ 0 := h.resolve_left (by simp)
    refine Nat.le_of_not_lt fun hlt => ?_
    have h3 := (dB_len (nB (x :: t)) t.length).1 (by simp at hlt; omega)
    rw [nB_cons] at h3
    have := Nat.le_mul_of_pos_right (256 ^ t.length) (show 0 < x.toNat by omega)
    omega
theorem big_of {r : List UInt8} (h0 : r ≠ []) (h1 : (r.getD 0 0).toNat < 128) (hs : (decide (2 ≤ r.length) && spare r) = false) : r = bigL (nB r) := by
  cases r with
  | nil => exact absurd rfl h0
  | cons x t =>
    simp only [List.getD_cons_zero] at h1
    unfold bigL
    by_cases hx : x.toNat = 0
    · have hx0 : x = 0 := UInt8.toNat_inj.1 hx
      subst hx0
      have hn : nB (0 :: t) = nB t := by rw [nB_cons]; simp
      have ht : t = [] ∨ 128 ≤ (t.getD 0 0).toNat := by
        cases t with
        | nil => exact .inl rfl
        | cons y t =>
          right
          simp [spare] at hs
          simpa using hs
      have hd : dB (nB t) = t := dB_of (ht.imp id fun h => by omega)
      rw [hn, hd, if_pos ht]
    · have hd : dB (nB (x :: t)) = x :: t := dB_of (.inr (by simpa using hx))
      rw [hd, if_neg (by simp; omega)]
theorem pBig_l1_is (n : Nat) (v : Nat) : ∀ (m fu : Nat) (l : List UInt8), l.length = m + 1 → m < fu → l.length ≤ 1000 → (l.getD 0 0).toNat < 128 → nB l = v → pBig_l1 n fu l l.length = some (bigL v, none) := by
  intro m
  induction m with
  | zero =>
    intro fu l hl hf h8 h128 hv
    cases fu with
    | zero => omega
    | succ fu =>
      rw [pBig_l1, ite_f (by simp <;> omega)]
      unfold pBig_j1
      rw [gd_pos (by omega), ← hv, ← big_of (fun h => by rw [h] at hl; simp at hl) h128 (by simp; omega)]
  | succ m ih =>
    intro fu l hl hf h8 h128 hv
    cases fu with
    | zero => omega
    | succ fu =>
      match l, hl with
      | x :: y :: l, hl =>
        rw [pBig_l1, ite_t (by simp <;> omega), pspare_is n (by simp), Option.bind_some]
        simp only [List.getD_cons_zero] at h128
        cases hs : spare (x :: y :: l) with
        | true =>
          have hx : x.toNat = 0 ∧ y.toNat < 128 := by
            simp only [spare, List.getD_cons_zero, List.getD_cons_succ, Bool.or_eq_true, Bool.and_eq_true, beq_iff_eq, decide_eq_true_eq] at hs
            omega
          rw [ite_t rfl, gd_pos (by omega), gd_pos (by simp; omega)]
          have e : ((x :: y :: l).drop 1).take ((x :: y :: l).length - 1) = y :: l := by simp
          rw [e, show (x :: y :: l).length - 1 = (y :: l).length by simp]
          refine ih fu (y :: l) (by simpa using hl) (by omega) (by simp at h8 ⊢; omega) (by simpa using hx.2) ?_
          rw [← hv, nB_cons x, hx.1]; simp
        | false =>
          rw [ite_f rfl]
          unfold pBig_j1
          rw [gd_pos (by omega), ← hv, ← big_of (by simp) (by simpa using h128) (by rw [hs, Bool.and_false])]
theorem pBig_is {n : Nat} (hn : 18446744073709551616 ≤ n) {a : List UInt32} (ha : a.length ≤ 1000000) : pBig n a = some (if (nD (nV a)).length ≤ 64 then (bigL (nV a), none) else ([], some 4)) := by
  unfold pBig
  obtain ⟨r, hr, h1, h2⟩ := pWrite_is hn ha
  rw [hr, Option.bind_some]
  by_cases h : (nD (nV a)).length ≤ 64
  · obtain ⟨h3, h4, h5, h6⟩ := h2 h
    rw [if_pos h, h6, ite_f (by rfl), h5, gd_pos (by decide)]
    have := pBig_l1_is n (nV a) 256 n ([0] ++ r.1) (by simp [h3]) (by omega) (by simp [h3]) (by simp) (by rw [List.singleton_append, nB_cons, h4]; simp)
    exact this
  · rw [if_neg h, h1 (by omega), ite_t (by rfl)]
/-- how many bytes a number of digits of 16 bits has -/
theorem rSize_is (n : Nat) {v : Nat} (hl : (nE v).length ≤ 100000) : rSize n (nE v) = some (((dB v).length : Nat) : Int) := by
  unfold rSize rSize_j1
  rw [gd_pos (okI64 (by omega) (by omega))]
  by_cases h0 : v = 0
  · subst h0
    rw [E_zero, ite_f (by decide)]
    simp [dB, dg_zero]
  · obtain ⟨h1, h2⟩ := E_last h0
    have hz := zpos h1
    rw [Z_E] at hz
    have hlt := Z_lt ((E_dz v).take ((nE v).length - 1))
    rw [List.length_take, Nat.min_eq_left (by omega)] at hlt
    obtain ⟨g1, g2⟩ := (E_dz v).get ((nE v).length - 1)
    have e1 : (((nE v).length : Nat) : Int) - 1 = (((nE v).length - 1 : Nat) : Int) := by omega
    rw [ite_t (by simp <;> omega), e1, gd_pos (okI64 (by omega) (by omega)), gd_pos (by omega), gd_pos (by omega), Int.toNat_natCast]
    obtain ⟨k, hk⟩ : ∃ k, (nE v).length = k + 1 := ⟨(nE v).length - 1, by omega⟩
    have hk' : (nE v).length - 1 = k := by omega
    rw [hk'] at hz hlt h2 g1 g2
    rw [hk, Nat.add_sub_cancel]
    have hp : (65536 : Nat) ^ k = 256 ^ (2 * k) := by rw [Nat.pow_mul]
    rw [hp] at hz hlt
    generalize hx : (nE v).getD k 0 = x at *
    have hpp : 0 < 256 ^ (2 * k) := Nat.pow_pos (by decide)
    have q1 : 256 ^ (2 * k + 1) = 256 ^ (2 * k) * 256 := Nat.pow_succ ..
    have q2 : 256 ^ (2 * k + 2) = 256 ^ (2 * k) * 65536 := by rw [Nat.pow_add]
    by_cases h256 : x < 256
    · rw [ite_t (by simpa using h256), gd_pos (okI64 (by omega) (by omega))]
      have a1 : (dB v).length ≤ 2 * k + 1 := by
        rw [dB_len, q1, hz]
        have := Nat.mul_le_mul_left (256 ^ (2 * k)) (show x.toNat + 1 ≤ 256 by omega)
        rw [Nat.mul_add] at this; omega
      have a2 : ¬ (dB v).length ≤ 2 * k := by
        rw [dB_len, hz]
        have := Nat.le_mul_of_pos_right (256 ^ (2 * k)) (show 0 < x.toNat by omega)
        omega
      congr 1; omega
    · rw [ite_f (by simpa using h256)]
      have a1 : (dB v).length ≤ 2 * k + 2 := by
        rw [dB_len, q2, hz]
        have := Nat.mul_le_mul_left (256 ^ (2 * k)) (show x.toNat + 1 ≤ 65536 by omega)
        rw [Nat.mul_add] at this; omega
      have a2 : ¬ (dB v).length ≤ 2 * k + 1 := by
        rw [dB_len, hz, q1]
        have := Nat.mul_le_mul_left (256 ^ (2 * k)) (show 256 ≤ x.toNat by omega)
        omega
      congr 1; omega
theorem digit_byte (v i : Nat) : (if i % 2 = 1 then v / 65536 ^ (i / 2) % 65536 / 256 else v / 65536 ^ (i / 2) % 65536) % 256 = v / 256 ^ i % 256 := by
  have e1 : (65536 : Nat) ^ (i / 2) = 256 ^ (2 * (i / 2)) := by rw [Nat.pow_mul]
  rw [e1]
  by_cases h : i % 2 = 1
  · rw [if_pos h]
    have e2 : (256 : Nat) ^ i = 256 ^ (2 * (i / 2)) * 256 := by rw [← Nat.pow_succ]; congr 1; omega
    rw [e2, ← Nat.div_div_eq_div_mul]; omega
  · rw [if_neg h]
    have e2 : (256 : Nat) ^ i = 256 ^ (2 * (i / 2)) := by congr 1; omega
    rw [e2]; omega
theorem rWrite_l1_is (n : Nat) (v s : Nat) (hl : (nE v).length ≤ 100000) (hs : s ≤ 2 * (nE v).length) : ∀ (m i fu : Nat) (l : List UInt8), i + m = s → m < fu → Wr l s i v →
    ∃ r, rWrite_l1 n (nE v) (s : Int) fu l (i : Int) = some (r, s, true) ∧ r.length = s ∧ nB r = v % 256 ^ s := by
  intro m
  induction m with
  | zero =>
    intro i fu l hi hf hw
    cases fu with
    | zero => omega
    | succ fu =>
      obtain rfl : i = s := by omega
      exact ⟨l, by rw [rWrite_l1, ite_f (by simp)]; simp, hw.len, hw.val⟩
  | succ m ih =>
    intro i fu l hi hf hw
    cases fu with
    | zero => omega
    | succ fu =>
      have t1 : Int.tdiv (i : Int) 2 = ((i / 2 : Nat) : Int) := by rw [Int.tdiv_eq_ediv_of_nonneg (by omega)]; omega
      have t2 : Int.tmod (i : Int) 2 = ((i % 2 : Nat) : Int) := by rw [Int.tmod_eq_emod_of_nonneg (by omega)]; omega
      have e1 : ((s : Int) - 1 - (i : Int)).toNat = s - 1 - i := by omega
      have hE := E_get v (i / 2)
      have key : ∀ x : Nat, x % 256 = v / 256 ^ i % 256 → x < 65536 → ∃ r, rWrite_j1 n (nE v) (s : Int) l (i : Int) (rWrite_l1 n (nE v) (s : Int) fu) (x : Int) = some (r, s, true) ∧ r.length = s ∧ nB r = v % 256 ^ s := by
        intro x hx hx2
        unfold rWrite_j1
        have t3 : Int.tmod (x : Int) 256 = ((x % 256 : Nat) : Int) := by rw [Int.tmod_eq_emod_of_nonneg (by omega)]; omega
        rw [gd_pos (okI64 (by omega) (by omega)), gd_pos (okI64 (by omega) (by omega)), gd_pos (by decide), gd_pos (by omega), gd_pos (by rw [Int.toNat_natCast]; omega), gd_pos (okI64 (by omega) (by omega)), t3, e1]
        refine ih (i + 1) fu _ (by omega) (by omega) (hw.step (by omega) ?_)
        rw [← hx]; simp [UInt8.ofInt]; omega
      rw [rWrite_l1, ite_t (by simp <;> omega), gd_pos (by decide), t1, t2, gd_pos (okI64 (by omega) (by omega)), ite_t (by simp <;> omega), gd_pos (by decide), gd_pos (okI64 (by omega) (by omega)), gd_pos (by omega), gd_pos (by omega), gd_pos (by decide), Int.toNat_natCast, hE]
      have hb := digit_byte v i
      have hlt : v / 65536 ^ (i / 2) % 65536 < 65536 := Nat.mod_lt _ (by decide)
      by_cases h : i % 2 = 1
      · rw [if_pos h] at hb
        have t4 : Int.tdiv ((v / 65536 ^ (i / 2) % 65536 : Nat) : Int) 256 = ((v / 65536 ^ (i / 2) % 65536 / 256 : Nat) : Int) := by rw [Int.tdiv_eq_ediv_of_nonneg (by omega)]; omega
        rw [ite_t (by simp only [beq_iff_eq]; omega), t4]
        generalize v / 65536 ^ (i / 2) % 65536 = q at *
        rw [gd_pos (by decide), gd_pos (okI64 (by omega) (by omega))]
        exact key (q / 256) hb (by omega)
      · rw [if_neg h] at hb
        rw [ite_f (by simp only [beq_eq_false_iff_ne]; omega)]
        exact key _ hb hlt
theorem rBig_is {n : Nat} (hn : 18446744073709551616 ≤ n) {a : List UInt32} (ha : a.length ≤ 10000) : rBig n a = some (bigL (nV a), (bigL (nV a)).length) := by
  unfold rBig
  have hlt := V_lt a
  have hlE : (nE (nV a)).length ≤ 2 * a.length := by
    rw [E_len, Nat.pow_mul]
    exact hlt
  have hsz : (dB (nV a)).length ≤ 2 * (nE (nV a)).length := by
    rw [dB_len, Nat.pow_mul]; exact (E_len (nV a) _).1 (Nat.le_refl _)
  rw [rOf_is hn (by omega), Option.bind_some]
  try dsimp only
  rw [rSize_is n (by omega), Option.bind_some]
  obtain ⟨r, h1, h2, h3⟩ := rWrite_l1_is n (nV a) (dB (nV a)).length (by omega) hsz (dB (nV a)).length 0 n _ (by omega) (by omega) (Wr.start _ _)
  have hr : r = dB (nV a) := by
    refine nB_inj h2 ?_
    rw [h3, nB_dB, Nat.mod_eq_of_lt ((dB_len _ _).1 (Nat.le_refl _))]
  have hw : rWrite n (nE (nV a)) (((dB (nV a)).length : Nat) : Int) = some (r, (dB (nV a)).length, true) := by
    unfold rWrite
    rw [ite_f (by simp <;> omega), rSize_is n (by omega), Option.bind_some, ite_f (by simp), gd_pos (by omega), gd_pos (by trivial), gd_pos (by unfold rmB; omega), Int.toNat_natCast]
    exact h1
  rw [hw, Option.bind_some]
  try dsimp only
  rw [hr]
  unfold bigL
  by_cases h0 : dB (nV a) = []
  · rw [if_pos (.inl h0), h0, ite_t (by rfl), gd_pos (by decide)]; rfl
  · have hl := List.length_pos_iff.2 h0
    rw [ite_f (by simp only [beq_eq_false_iff_ne]; omega), gd_pos (by omega), gd_pos (by omega)]
    by_cases h128 : 128 ≤ ((dB (nV a)).getD 0 0).toNat
    · rw [ite_t (by simp only [decide_eq_true_eq, UInt8.le_iff_toNat_le]; exact h128), if_pos (.inr h128), gd_pos (by unfold rmB; omega)]; rfl
    · rw [ite_f (by simp only [decide_eq_false_iff_not, UInt8.le_iff_toNat_le]; exact h128), if_neg (fun h => h.elim h0 h128)]
theorem nB_snoc (l : List UInt8) (x : UInt8) : nB (l ++ [x]) = nB l * 256 + x.toNat := by
  unfold nB; rw [List.reverse_append, List.reverse_singleton, List.singleton_append, vl_cons]; omega
theorem V_inj : ∀ {a b : List UInt32}, a.length = b.length → nV a = nV b → a = b
  | [], [], _, _ => rfl
  | x :: a, y :: b, hl, h => by
    have h1 := u32_lt x
    have h2 := u32_lt y
    rw [V_cons, V_cons] at h
    rw [V_inj (a := a) (b := b) (by simpa using hl) (by omega), UInt32.toNat_inj.1 (show x.toNat = y.toNat by omega)]
  | [], _ :: _, hl, _ => by simp at hl
  | _ :: _, [], hl, _ => by simp at hl
theorem limb_get (w : List UInt32) (k : Nat) (h : k < w.length) : nV w / 4294967296 ^ k % 4294967296 = (w.getD k 0).toNat := by
  have h1 := V_split w k
  have h2 := V_drop w k h
  have h3 := V_lt (w.take k)
  rw [List.length_take, Nat.min_eq_left (by omega)] at h3
  have h4 := u32_lt (w.getD k 0)
  have hp : 0 < 4294967296 ^ k := Nat.pow_pos (by decide)
  rw [h1, Nat.add_mul_div_left _ _ hp, Nat.div_eq_of_lt h3, h2]; omega
theorem or_byte (o : UInt32) (x : UInt8) (s : Nat) (hs : s < 4) (ho : o.toNat % 256 ^ (s + 1) = 0) : (o ||| shl32 x.toUInt32 ((8 * s : Nat) : Int)).toNat = o.toNat + 256 ^ s * x.toNat := by
  have hx := b_lt x
  have e0 : (2 : Nat) ^ (8 * s) = 256 ^ s := by rw [Nat.pow_mul]
  have hle : 256 ^ s ≤ 16777216 := Nat.le_trans (Nat.pow_le_pow_right (by decide) (show s ≤ 3 by omega)) (by decide)
  have hxs : x.toNat * 256 ^ s < 256 ^ (s + 1) := by
    rw [Nat.pow_succ, Nat.mul_comm]
    exact Nat.mul_lt_mul_of_pos_left hx (Nat.pow_pos (by decide))
  have hsm : x.toNat * 256 ^ s ≤ 255 * 16777216 := Nat.mul_le_mul (by omega) hle
  have e1 : (shl32 x.toUInt32 ((8 * s : Nat) : Int)).toNat = x.toNat * 256 ^ s := by
    unfold shl32
    rw [if_pos (by omega), Int.toNat_natCast, UInt32.toNat_shiftLeft, UInt8.toNat_toUInt32]
    have : (UInt32.ofNat (8 * s)).toNat % 32 = 8 * s := by simp; omega
    rw [this, Nat.shiftLeft_eq, e0]; omega
  obtain ⟨q, hq⟩ := Nat.dvd_of_mod_eq_zero ho
  have e2 : (256 : Nat) ^ (s + 1) = 2 ^ (8 * (s + 1)) := by rw [Nat.pow_mul]
  have h3 := Nat.shiftLeft_add_eq_or_of_lt (i := 8 * (s + 1)) (b := x.toNat * 256 ^ s) (by rw [← e2]; exact hxs) q
  rw [Nat.shiftLeft_eq, ← e2] at h3
  rw [UInt32.toNat_or, e1, hq, Nat.mul_comm _ q, ← h3, Nat.mul_comm x.toNat]
theorem pRead_l1_is (n : Nat) (b : List UInt8) (hb : b.length ≤ 256) : ∀ (m i fu : Nat) (w : List UInt32), i + m = b.length → m < fu → w.length = (b.length + 3) / 4 → nV w = nB (b.take i) * 256 ^ (b.length - i) →
    ∃ r, pRead_l1 n b b.length fu w (i : Int) = some (r, (b.length + 3) / 4, none) ∧ r.length = (b.length + 3) / 4 ∧ nV r = nB b := by
  have t0 : Int.tdiv (((b.length : Nat) : Int) + 3) 4 = (((b.length + 3) / 4 : Nat) : Int) := by rw [Int.tdiv_eq_ediv_of_nonneg (by omega)]; omega
  intro m
  induction m with
  | zero =>
    intro i fu w hi hf hw hv
    cases fu with
    | zero => omega
    | succ fu =>
      refine ⟨w, by rw [pRead_l1, ite_f (by simp <;> omega), t0, Int.toNat_natCast], hw, ?_⟩
      rw [hv, List.take_of_length_le (by omega), show b.length - i = 0 by omega]; simp
  | succ m ih =>
    intro i fu w hi hf hw hv
    cases fu with
    | zero => omega
    | succ fu =>
      obtain ⟨at', hat⟩ : ∃ k, k = b.length - 1 - i := ⟨_, rfl⟩
      have e1 : (((b.length : Nat) : Int) - 1) - (i : Int) = (at' : Int) := by omega
      have t1 : Int.tdiv (at' : Int) 4 = ((at' / 4 : Nat) : Int) := by rw [Int.tdiv_eq_ediv_of_nonneg (by omega)]; omega
      have t2 : 8 * Int.tmod (at' : Int) 4 = ((8 * (at' % 4) : Nat) : Int) := by rw [Int.tmod_eq_emod_of_nonneg (by omega)]; omega
      rw [pRead_l1, ite_t (by simp <;> omega), e1, t0, t1, t2, Int.toNat_natCast, Int.toNat_natCast, Int.toNat_natCast]
      rw [gd_pos (by omega), gd_pos (by omega), gd_pos (okI64 (by omega) (by omega)), gd_pos (okI64 (by omega) (by omega)), gd_pos (by decide), gd_pos (okI64 (by omega) (by omega)), gd_pos (by omega), gd_pos (by omega), gd_pos (by decide), gd_pos (okI64 (by omega) (by omega)), gd_pos (by omega), gd_pos (by omega), gd_pos (by omega), gd_pos (okI64 (by omega) (by omega))]
      have hk : at' / 4 < w.length := by omega
      have hpw : (4294967296 : Nat) ^ (at' / 4) = 256 ^ (4 * (at' / 4)) := by rw [Nat.pow_mul]
      have hg := limb_get w (at' / 4) hk
      have hz : (w.getD (at' / 4) 0).toNat % 256 ^ (at' % 4 + 1) = 0 := by
        rw [← hg, hv, show b.length - i = 4 * (at' / 4) + (at' % 4 + 1) by omega, hpw, Nat.pow_add, Nat.mul_comm (256 ^ (4 * (at' / 4))), ← Nat.mul_assoc, Nat.mul_div_cancel _ (Nat.pow_pos (by decide))]
        have e3 : (4294967296 : Nat) = 256 ^ (at' % 4 + 1) * 256 ^ (3 - at' % 4) := by rw [← Nat.pow_add, show at' % 4 + 1 + (3 - at' % 4) = 4 by omega]
        rw [e3, Nat.mod_mul_right_mod]; exact Nat.mul_mod_left _ _
      have ho := or_byte (w.getD (at' / 4) 0) (b.getD i 0) (at' % 4) (by omega) hz
      have hV := V_set w (at' / 4) (w.getD (at' / 4) 0 ||| shl32 (b.getD i 0).toUInt32 ((8 * (at' % 4) : Nat) : Int)) hk
      generalize w.getD (at' / 4) 0 ||| shl32 (b.getD i 0).toUInt32 ((8 * (at' % 4) : Nat) : Int) = o at *
      refine ih (i + 1) fu _ (by omega) (by omega) (by rw [List.length_set]; exact hw) ?_
      have e4 : b.take (i + 1) = b.take i ++ [b.getD i 0] := by
        rw [List.take_succ_eq_append_getElem (by omega), List.getD_eq_getElem?_getD, List.getElem?_eq_getElem (by omega)]; rfl
      have e5 : 256 ^ (b.length - i) = 256 * 256 ^ at' := by rw [show b.length - i = at' + 1 by omega, Nat.pow_succ, Nat.mul_comm]
      have e6 : (256 : Nat) ^ at' = 4294967296 ^ (at' / 4) * 256 ^ (at' % 4) := by rw [hpw, ← Nat.pow_add]; congr 1; omega
      rw [e4, nB_snoc, show b.length - (i + 1) = at' by omega]
      rw [e5] at hv
      have : nV (w.set (at' / 4) o) = nV w + 256 ^ at' * (b.getD i 0).toNat := by
        rw [ho, Nat.mul_add, ← Nat.mul_assoc, ← e6] at hV
        omega
      rw [this, hv]; grind
theorem D_len_dB (v : Nat) : (nD v).length = ((dB v).length + 3) / 4 := by
  have h : ∀ k, (nD v).length ≤ k ↔ (dB v).length ≤ 4 * k := fun k => by rw [D_len, dB_len, Nat.pow_mul]
  have h2 := (h (((dB v).length + 3) / 4)).2 (by omega)
  have h3 := (h (nD v).length).1 (Nat.le_refl _)
  omega
theorem pRead_l2_is {n : Nat} (hn : 18446744073709551616 ≤ n) (v : Nat) : ∀ (m fu : Nat) (l : List UInt8), l.length = m → m < fu → l.length ≤ 100000 → nB l = v →
    pRead_l2 n fu l l.length = some (if 256 < (dB v).length then ([], 0, some 4) else (nD v, (nD v).length, none)) := by
  have fin : ∀ (l : List UInt8), l.length ≤ 100000 → nB l = v → (l = [] ∨ (l.getD 0 0).toNat ≠ 0) → pRead_j1 n l l.length = some (if 256 < (dB v).length then ([], 0, some 4) else (nD v, (nD v).length, none)) := by
    intro l hl hv h0
    have hd := dB_of h0
    rw [hv] at hd
    unfold pRead_j1
    by_cases h256 : 256 < l.length
    · rw [ite_t (by simp; omega), hd, if_pos h256]
    · have t0 : Int.tdiv (((l.length : Nat) : Int) + 3) 4 = (((l.length + 3) / 4 : Nat) : Int) := by rw [Int.tdiv_eq_ediv_of_nonneg (by omega)]; omega
      rw [ite_f (by simp; omega), hd, if_neg h256, t0, Int.toNat_natCast, gd_pos (okI64 (by omega) (by omega)), gd_pos (by decide), gd_pos (okI64 (by omega) (by omega)), gd_pos (by omega), gd_pos (by trivial), gd_pos (by unfold rmB; omega)]
      obtain ⟨r, h1, h2, h3⟩ := pRead_l1_is n l (by omega) l.length 0 n (List.replicate ((l.length + 3) / 4) 0) (by omega) (by omega) (by simp) (by rw [V_rep]; simp [nB_nil])
      have hlen : (nD v).length = (l.length + 3) / 4 := by rw [D_len_dB, hd]
      have hr : r = nD v := V_inj (by rw [h2, hlen]) (by rw [h3, V_D, hv])
      rw [hr] at h1
      rw [hlen]
      exact h1
  intro m
  induction m with
  | zero =>
    intro fu l hl hf h8 hv
    cases fu with
    | zero => omega
    | succ fu =>
      obtain rfl := List.eq_nil_of_length_eq_zero hl
      rw [pRead_l2, ite_f (by simp)]
      exact fin [] h8 hv (.inl rfl)
  | succ m ih =>
    intro fu l hl hf h8 hv
    cases fu with
    | zero => omega
    | succ fu =>
      match l, hl with
      | x :: l, hl =>
        rw [pRead_l2, ite_t (by simp <;> omega), gd_pos (by omega), gd_pos (by simp <;> omega)]
        simp only [List.getD_cons_zero]
        by_cases hx : x = 0
        · rw [ite_t (by rw [hx]; rfl), gd_pos (by omega), gd_pos (by simp; omega)]
          have e : ((x :: l).drop 1).take ((x :: l).length - 1) = l := by simp
          rw [e, show (x :: l).length - 1 = l.length by simp]
          exact ih fu l (by simpa using hl) (by omega) (by simp at h8; omega) (by rw [← hv, nB_cons, hx]; simp)
        · rw [ite_f (by simp only [beq_eq_false_iff_ne]; exact hx)]
          exact fin (x :: l) h8 hv (.inr (by simp only [List.getD_cons_zero]; exact fun h => hx (UInt8.toNat_inj.1 h)))
theorem pRead_is {n : Nat} (hn : 18446744073709551616 ≤ n) {l : List UInt8} (hl : l.length ≤ 100000) : pRead n l = some (if 256 < (dB (nB l)).length then ([], 0, some 4) else (nD (nB l), (nD (nB l)).length, none)) :=
  pRead_l2_is hn (nB l) l.length n l rfl (by omega) hl rfl
theorem pReadBig_is {n : Nat} (hn : 18446744073709551616 ≤ n) {l : List UInt8} (hl : l.length ≤ 100000) : pReadBig n l = some (if l = [] ∨ 128 ≤ (l.getD 0 0).toNat ∨ (2 ≤ l.length ∧ spare l = true) then ([], 0, some 2) else if 256 < (dB (nB l)).length then ([], 0, some 4) else (nD (nB l), (nD (nB l)).length, none)) := by
  unfold pReadBig
  by_cases h0 : l = []
  · rw [ite_t (by rw [h0]; rfl), if_pos (.inl h0)]
  · have hlp := List.length_pos_iff.2 h0
    rw [ite_f (by simp only [beq_eq_false_iff_ne]; omega), gd_pos (by omega), gd_pos (by omega)]
    by_cases h1 : 128 ≤ (l.getD 0 0).toNat
    · rw [ite_t (by simp only [decide_eq_true_eq, UInt8.le_iff_toNat_le]; exact h1), if_pos (.inr (.inl h1))]
    · rw [ite_f (by simp only [decide_eq_false_iff_not, UInt8.le_iff_toNat_le]; exact h1)]
      by_cases h2 : 2 ≤ l.length
      · rw [ite_t (by simp; omega), pspare_is n h2, Option.bind_some]
        cases hs : spare l with
        | true => rw [ite_t rfl, if_pos (.inr (.inr ⟨h2, rfl⟩))]
        | false => rw [ite_f rfl, if_neg (by simp only [not_or]; exact ⟨h0, h1, fun h => by cases h.2⟩), pRead_is hn hl]; split <;> rfl
      · rw [ite_f (by simp; omega), if_neg (by simp only [not_or]; exact ⟨h0, h1, fun h => h2 h.1⟩), pRead_is hn hl]; split <;> rfl
theorem rBytes_l1_is {n : Nat} (hn : 18446744073709551616 ≤ n) (a : List UInt8) (ha : a.length ≤ 100000) : ∀ (m c fu : Nat) (z : List Int), a.length ≤ 2 * c + m → 2 * c ≤ a.length + 1 → m < fu → z.length = c → Dz z → nZ z = nB (a.drop (a.length - 2 * c)) →
    rBytes_l1 n a fu z ((a.length : Int) - 1 - 2 * (c : Int)) = some (nE (nB a), (nE (nB a)).length) := by
  intro m
  induction m using Nat.strongRecOn with
  | _ m ih =>
    intro c fu z h1 h2 hf hz hd hv
    cases fu with
    | zero => omega
    | succ fu =>
      by_cases hlt : 2 * c < a.length
      · obtain ⟨i, hi⟩ : ∃ k, k = a.length - 1 - 2 * c := ⟨_, rfl⟩
        have e1 : (a.length : Int) - 1 - 2 * (c : Int) = (i : Int) := by omega
        have hx := b_lt (a.getD i 0)
        have d1 : a.drop i = a.getD i 0 :: a.drop (i + 1) := by
          rw [List.drop_eq_getElem_cons (show i < a.length by omega), List.getD_eq_getElem?_getD, List.getElem?_eq_getElem (show i < a.length by omega)]; rfl
        rw [e1, rBytes_l1, ite_t (by simp), gd_pos (by omega), gd_pos (by omega)]
        have hpw : (65536 : Nat) ^ c = 256 ^ (2 * c) := by rw [Nat.pow_mul]
        have hdl : (a.drop (i + 1)).length = 2 * c := by simp; omega
        have hv' : nZ z = nB (a.drop (i + 1)) := by rw [hv]; congr 2; omega
        unfold rBytes_j1
        by_cases h0 : 0 < i
        · have e2 : ((i : Int) - 1).toNat = i - 1 := by omega
          have hy := b_lt (a.getD (i - 1) 0)
          have d2 : a.drop (i - 1) = a.getD (i - 1) 0 :: a.drop i := by
            rw [List.drop_eq_getElem_cons (show i - 1 < a.length by omega), List.getD_eq_getElem?_getD, List.getElem?_eq_getElem (show i - 1 < a.length by omega), show i - 1 + 1 = i by omega]; rfl
          rw [ite_t (by simpa using h0), e2, Int.toNat_natCast, gd_pos (okI64 (by omega) (by omega)), gd_pos (by omega), gd_pos (by omega), gd_pos (okI64 (by omega) (by omega)), gd_pos (okI64 (by omega) (by omega)), gd_pos (by unfold rmB; omega), gd_pos (okI64 (by omega) (by omega))]
          rw [show (i : Int) - 2 = (a.length : Int) - 1 - 2 * ((c + 1 : Nat) : Int) by omega]
          refine ih (m - 1) (by omega) (c + 1) fu _ (by omega) (by omega) (by omega) (by rw [List.length_append, hz]; rfl) (hd.app (Dz.one ⟨by omega, by omega⟩)) ?_
          rw [Z_app, Z_cons, Z_nil, hz, hv', hpw, show a.length - 2 * (c + 1) = i - 1 by omega, d2, d1, nB_cons, nB_cons, List.length_cons, hdl, Nat.pow_succ]
          have e3 : (((a.getD i 0).toNat : Int) + ((a.getD (i - 1) 0).toNat : Int) * 256).toNat = (a.getD i 0).toNat + (a.getD (i - 1) 0).toNat * 256 := by omega
          rw [e3]; grind
        · obtain rfl : i = 0 := by omega
          rw [ite_f (by simp), show ((0 : Nat) : Int).toNat = 0 from rfl, gd_pos (by unfold rmB; omega), gd_pos (okI64 (by omega) (by omega)), show ((0 : Nat) : Int) - 2 = (a.length : Int) - 1 - 2 * ((c + 1 : Nat) : Int) by omega]
          refine ih (m - 1) (by omega) (c + 1) fu _ (by omega) (by omega) (by omega) (by rw [List.length_append, hz]; rfl) (hd.app (Dz.one ⟨by omega, by omega⟩)) ?_
          rw [Z_app, Z_cons, Z_nil, hz, hv', hpw, show a.length - 2 * (c + 1) = 0 by omega, d1, nB_cons, hdl]
          have e3 : (((a.getD 0 0).toNat : Nat) : Int).toNat = (a.getD 0 0).toNat := rfl
          rw [e3]; simp
      · have hc : rtrim n z = some (z, (nE (nZ z)).length) ∧ (z.drop 0).take (nE (nZ z)).length = nE (nZ z) := rtrim_is hn hd (by omega)
        rw [rBytes_l1, ite_f (by simp; omega), hc.1, Option.bind_some, hc.2, hv, show a.length - 2 * c = 0 by omega, List.drop_zero]
theorem rBytes_is {n : Nat} (hn : 18446744073709551616 ≤ n) {a : List UInt8} (ha : a.length ≤ 100000) : rBytes n a = some (nE (nB a), (nE (nB a)).length) := by
  unfold rBytes
  rw [gd_pos (okI64 (by omega) (by omega))]
  have := rBytes_l1_is hn a ha a.length 0 n [] (by omega) (by omega) (by omega) rfl Dz.nil (by simp [Z_nil, nB_nil])
  simpa using this
def NB : Nat := 4294967296 ^ 3
theorem NB_ok : 18446744073709551616 ≤ NB := by decide
theorem upB : pup NB = some true := by decide +kernel
theorem E_of_dB {l : List UInt8} : (nE (nB l)).length ≤ l.length := by
  rw [E_len]
  refine Nat.lt_of_lt_of_le (nB_lt l) (Nat.pow_le_pow_left (by decide) _)
theorem lBigs_is (a : List UInt32) (b : List UInt8) : lBigs NB a b = some true := by
  have hn := NB_ok
  unfold lBigs
  rw [upB, Option.bind_some]
  by_cases ha : a.length ≤ 100
  · rw [ite_f (by simp; omega)]
    by_cases hb : b.length ≤ 600
    · have hEb := E_of_dB (l := b)
      rw [ite_f (by simp; omega), pBig_is hn (by omega), Option.bind_some, rMay_is hn (by omega), Option.bind_some]
      have tail : ((pReadBig NB b).bind fun r59 =>
          (rNumber NB b).bind fun r63 =>
          bif (!r63) then
            bif true then
              gd (¬((r59.2.2 : Option Int) = none ∧ ((some 2) : Option Int) = none)) <|
              bif (r59.2.2 == (some 2)) then
                some (((r59.2.1 : Nat) : Int) == 0)
              else
                some false
            else
              some false
          else
            gd (0 ≤ (0 : Int)) <|
            gd ((0 : Int) < ((b.length : Nat) : Int)) <|
            bif (decide ((128 : UInt8) ≤ (b.getD 0 0))) then
              bif true then
                gd (¬((r59.2.2 : Option Int) = none ∧ ((some 2) : Option Int) = none)) <|
                bif (r59.2.2 == (some 2)) then
                  some (((r59.2.1 : Nat) : Int) == 0)
                else
                  some false
              else
                some false
            else
              (rBytes NB b).bind fun r84 =>
              (rSize NB r84.1).bind fun r86 =>
              bif (decide ((256 : Int) < r86)) then
                bif true then
                  gd (¬((r59.2.2 : Option Int) = none ∧ ((some 4) : Option Int) = none)) <|
                  bif (r59.2.2 == (some 4)) then
                    some (((r59.2.1 : Nat) : Int) == 0)
                  else
                    some false
                else
                  some false
              else
                bif true then
                  bif ((r59.2.2).isNone) then
                    (rSame NB r59.1 r84.1).bind fun r107 =>
                    some r107
                  else
                    some false
                else
                  some false) = some true := by
        rw [pReadBig_is hn (by omega), Option.bind_some, rNumber_is, Option.bind_some, rBytes_is hn (by omega)]
        by_cases h0 : b = []
        · rw [if_pos (.inl h0), h0]; rfl
        · by_cases h2 : 2 ≤ b.length ∧ spare b = true
          · rw [if_pos (.inr (.inr h2)), h2.2, decide_eq_true h2.1]
            simp [gd_pos]
          · have hbs : (decide (2 ≤ b.length) && spare b) = false := by
              cases hs : spare b with
              | false => rw [Bool.and_false]
              | true => rw [Bool.and_true]; exact decide_eq_false fun h => h2 ⟨h, hs⟩
            have hlp := List.length_pos_iff.2 h0
            rw [hbs, ite_f (by simp [h0]), gd_pos (by omega), gd_pos (by omega)]
            by_cases h1 : 128 ≤ (b.getD 0 0).toNat
            · rw [if_pos (.inr (.inl h1)), ite_t (by simp only [decide_eq_true_eq, UInt8.le_iff_toNat_le]; exact h1)]
              rfl
            · rw [if_neg (by simp only [not_or]; exact ⟨h0, h1, h2⟩), ite_f (by simp only [decide_eq_false_iff_not, UInt8.le_iff_toNat_le]; exact h1), Option.bind_some]
              try dsimp only
              rw [rSize_is NB (by omega), Option.bind_some]
              by_cases h256 : 256 < (dB (nB b)).length
              · rw [if_pos h256, ite_t (by simp; omega)]
                rfl
              · have hD : (nD (nB b)).length ≤ 1000000 := by rw [D_len_dB]; omega
                rw [if_neg h256, ite_f (by simp; omega), cond_true]
                try dsimp only
                rw [rSame_is hn hD (by omega)]; simp
      by_cases hA : (nD (nV a)).length ≤ 64
      · rw [if_pos hA, rBig_is hn (by omega), decide_eq_true hA]
        simp only [Bool.not_true, cond_false, cond_true, Option.isNone_none, Option.bind_some]
        rw [ite_f (by simp)]
        exact tail
      · rw [if_neg hA, decide_eq_false hA]
        simp only [Bool.not_false, cond_true, cond_false]
        rw [gd_pos (by decide), ite_f (by decide), ite_f (by decide)]
        exact tail
    · rw [ite_t (by simp; omega)]
  · rw [ite_t (by simp; omega)]
end Go.Sx
namespace Go.Proofs.Ytliilihbnhdemaa
open Go.RowKit Go.Ch Go.Sx
theorem primBigs_c (w : World) (B0 : Nat) (v0 : Value) (l0 : List UInt32) (hv0 : Sl w B0 v0 (l0.map w32)) (B1 : Nat) (v1 : Value) (l1 : List UInt8) (hv1 : Sl w B1 v1 (l1.map bU)) :
    Calls Try.prog 10 #[v0, v1] w (Ret fun v' w' => Ext w w' ∧ v' = .bool true) := by
  obtain ⟨p0, a0, b0⟩ := in_w hv0 89
  obtain ⟨p1, a1, b1⟩ := in_b hv1 5
  exact law_of (lBigs_ok NB true) (args := [.c (.wh 0), .c (.wh 1)]) (H := [⟨.ro false, 89, 1, l0.length, .w l0⟩, ⟨.ro false, 5, 1, l1.length, .b l1⟩]) (ρ := plL [p0, p1]) (vals := [v0, v1]) rfl (allP_cons.2 ⟨lBigs_is l0 l1, allP_nil⟩) trivial (hpL (ps := [p0, p1]) (F2.cons b0 (F2.cons b1 F2.nil))) (F2.cons a0 (F2.cons a1 F2.nil))
end Go.Proofs.Ytliilihbnhdemaa
