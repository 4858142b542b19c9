import Derived.Test.YtamddohbpdbdmaaDoorBk
set_option linter.unusedVariables false
set_option linter.unusedSimpArgs false
namespace Go.Ch

/-! ### SHA-256, plain -/
def rotr (x : UInt32) (n : Nat) : UInt32 := (x <<< UInt32.ofNat (32 - n)) ||| (x >>> UInt32.ofNat n)
def bsig0 (x : UInt32) : UInt32 := rotr x 2 ^^^ rotr x 13 ^^^ rotr x 22
def bsig1 (x : UInt32) : UInt32 := rotr x 6 ^^^ rotr x 11 ^^^ rotr x 25
def ssig0 (x : UInt32) : UInt32 := rotr x 7 ^^^ rotr x 18 ^^^ (x >>> 3)
def ssig1 (x : UInt32) : UInt32 := rotr x 17 ^^^ rotr x 19 ^^^ (x >>> 10)
def ch (e f g : UInt32) : UInt32 := (e &&& f) ^^^ (~~~e &&& g)
def maj (a b c : UInt32) : UInt32 := (a &&& b) ^^^ (a &&& c) ^^^ (b &&& c)

/-- bit number p, the lowest first -/
def bitAt (x : UInt32) (p : Nat) : Bool := x.toNat.testBit p

theorem ofNat_toNat32 {n : Nat} (h : n < 4294967296) : (UInt32.ofNat n).toNat = n := by simp; omega
theorem bit_xor (x y : UInt32) (p : Nat) : bitAt (x ^^^ y) p = (bitAt x p != bitAt y p) := by
  simp [bitAt, UInt32.toNat_xor, Nat.testBit_xor]
theorem bit_and (x y : UInt32) (p : Nat) : bitAt (x &&& y) p = (bitAt x p && bitAt y p) := by
  simp [bitAt, UInt32.toNat_and, Nat.testBit_and]
theorem bit_or (x y : UInt32) (p : Nat) : bitAt (x ||| y) p = (bitAt x p || bitAt y p) := by
  simp [bitAt, UInt32.toNat_or, Nat.testBit_or]
theorem bit_not (x : UInt32) (p : Nat) (h : p < 32) : bitAt (~~~x) p = !bitAt x p := by
  have : (~~~x).toNat = (~~~x.toBitVec).toNat := rfl
  simp only [bitAt, this, BitVec.toNat_not]
  have hx := x.toNat_lt
  have e : 2 ^ 32 - 1 - x.toBitVec.toNat = 2 ^ 32 - (x.toNat + 1) := by
    show 2 ^ 32 - 1 - x.toNat = _
    omega
  rw [e, Nat.testBit_two_pow_sub_succ hx]
  simp [h]
theorem bit_shr (x : UInt32) (n p : Nat) (hn : n < 32) : bitAt (x >>> UInt32.ofNat n) p = bitAt x (p + n) := by
  simp only [bitAt, UInt32.toNat_shiftRight, ofNat_toNat32 (show n < 4294967296 by omega), Nat.mod_eq_of_lt hn, Nat.testBit_shiftRight]
  rw [Nat.add_comm]
theorem bit_shl (x : UInt32) (n p : Nat) (hn : n < 32) (hp : p < 32) : bitAt (x <<< UInt32.ofNat n) p = (decide (n ≤ p) && bitAt x (p - n)) := by
  simp only [bitAt, UInt32.toNat_shiftLeft, ofNat_toNat32 (show n < 4294967296 by omega), Nat.mod_eq_of_lt hn]
  rw [Nat.testBit_mod_two_pow, Nat.testBit_shiftLeft]
  simp [hp]
theorem bit_hi (x : UInt32) (p : Nat) (hp : 32 ≤ p) : bitAt x p = false := by
  apply Nat.testBit_lt_two_pow
  exact Nat.lt_of_lt_of_le x.toNat_lt (Nat.pow_le_pow_right (by omega) hp)
theorem bit_rotr (x : UInt32) (n p : Nat) (h0 : 0 < n) (hn : n < 32) (hp : p < 32) : bitAt (rotr x n) p = bitAt x ((p + n) % 32) := by
  rw [rotr, bit_or, bit_shl x (32 - n) p (by omega) hp, bit_shr x n p hn]
  by_cases h : p + n < 32
  · rw [Nat.mod_eq_of_lt h]
    have : ¬ (32 - n ≤ p) := by omega
    simp [this]
  · have h1 : (p + n) % 32 = p - (32 - n) := by omega
    rw [h1, bit_hi x (p + n) (by omega)]
    have : 32 - n ≤ p := by omega
    simp [this]

/-- the i-th bit as a number, the highest first -/
def hiBit (x : UInt32) (i : Nat) : Nat := if bitAt x (31 - i) then 1 else 0
theorem hiBit_lt (x : UInt32) (i : Nat) : hiBit x i < 2 := by unfold hiBit; split <;> omega
/-- the first i bits of a word, as a number -/
def top (z : UInt32) (i : Nat) : Nat := z.toNat / 2 ^ (32 - i)
theorem top_zero (z : UInt32) : top z 0 = 0 := by
  unfold top
  exact Nat.div_eq_of_lt z.toNat_lt
theorem top_all (z : UInt32) : top z 32 = z.toNat := by simp [top]
theorem top_succ (z : UInt32) (i : Nat) (hi : i < 32) : top z (i + 1) = top z i * 2 + hiBit z i := by
  have e : 32 - i = (32 - (i + 1)) + 1 := by omega
  unfold top hiBit bitAt
  rw [e, Nat.pow_succ, ← Nat.div_div_eq_div_mul]
  have h31 : 31 - i = 32 - (i + 1) := by omega
  rw [h31, Nat.testBit_eq_decide_div_mod_eq]
  generalize z.toNat / 2 ^ (32 - (i + 1)) = q
  by_cases h : q % 2 = 1
  · simp [h]; omega
  · simp [h]; omega
theorem top_le (z : UInt32) (i : Nat) (hi : i ≤ 32) : top z i < 2 ^ i := by
  induction i with
  | zero => rw [top_zero]; simp
  | succ i ih =>
    rw [top_succ z i (by omega), Nat.pow_succ]
    have := ih (by omega)
    have := hiBit_lt z i
    omega

/-- a byte added at a word's end -/
def wadd (acc : UInt32) (b : UInt8) : UInt32 := acc * 256 + b.toUInt32
theorem or_byte (x : UInt32) (b : UInt8) : (x <<< UInt32.ofNat 8) ||| b.toUInt32 = wadd x b := by
  apply UInt32.toNat_inj.1
  unfold wadd
  have hb : b.toUInt32.toNat = b.toNat := by simp
  have hlt := b.toNat_lt
  rw [UInt32.toNat_or, UInt32.toNat_add, UInt32.toNat_mul, UInt32.toNat_shiftLeft, hb]
  have h256 : (256 : UInt32).toNat = 256 := rfl
  have h8 : (UInt32.ofNat 8).toNat % 32 = 8 := rfl
  rw [h256, h8]
  have e : (x.toNat <<< 8) % 2 ^ 32 = ((x.toNat % 2 ^ 24) <<< 8) := by
    rw [Nat.shiftLeft_eq, Nat.shiftLeft_eq]; omega
  rw [e, ← Nat.shiftLeft_add_eq_or_of_lt (show b.toNat < 2 ^ 8 by omega), Nat.shiftLeft_eq]
  omega

/-- the words of a block's first bytes -/
def wordOf (bs : List UInt8) : UInt32 := bs.foldl wadd 0
def first16 (bl : List UInt8) : List UInt32 := (List.range 16).map fun k => wordOf ((bl.drop (4 * k)).take 4)
def nextW (ws : List UInt32) : UInt32 :=
  let i := ws.length
  ws.getD (i - 16) 0 + ssig0 (ws.getD (i - 15) 0) + ws.getD (i - 7) 0 + ssig1 (ws.getD (i - 2) 0)
def extW (ws : List UInt32) : List UInt32 := ws ++ [nextW ws]
def extN : Nat → List UInt32 → List UInt32
  | 0, ws => ws
  | n + 1, ws => extW (extN n ws)
def sched (bl : List UInt8) : List UInt32 := extN 48 (first16 bl)
theorem length_first16 (bl : List UInt8) : (first16 bl).length = 16 := by simp [first16]
theorem length_extN (n : Nat) (ws : List UInt32) : (extN n ws).length = ws.length + n := by
  induction n with
  | zero => rfl
  | succ n ih => simp [extN, extW, ih]; omega
theorem length_sched (bl : List UInt8) : (sched bl).length = 64 := by simp [sched, length_extN, length_first16]

/-- the rounds' words: eight -/
structure Words where
  a : UInt32
  b : UInt32
  c : UInt32
  d : UInt32
  e : UInt32
  f : UInt32
  g : UInt32
  h : UInt32
def Words.list (v : Words) : List UInt32 := [v.a, v.b, v.c, v.d, v.e, v.f, v.g, v.h]
def roundOf (v : Words) (n : UInt32) : Words :=
  let t := v.h + bsig1 v.e + ch v.e v.f v.g + n
  let u := bsig0 v.a + maj v.a v.b v.c
  ⟨t + u, v.a, v.b, v.c, v.d + t, v.e, v.f, v.g⟩

def bitI (x : UInt32) (i : Int) : Nat := if i < 0 then 0 else hiBit x i.toNat
theorem bitI_lt (x : UInt32) (i : Int) : bitI x i < 2 := by
  unfold bitI; split
  · omega
  · exact hiBit_lt x _
theorem shr_and_one (x : UInt32) (i : Nat) (hi : i < 32) : (x >>> UInt32.ofNat (31 - i)) &&& 1 = UInt32.ofNat (hiBit x i) := by
  apply UInt32.toNat_inj.1
  have h1 := hiBit_lt x i
  rw [UInt32.toNat_and, ofNat_toNat32 (by omega), UInt32.toNat_shiftRight, ofNat_toNat32 (by omega), Nat.mod_eq_of_lt (show 31 - i < 32 by omega)]
  have e1 : (1 : UInt32).toNat = 2 ^ 1 - 1 := rfl
  rw [e1, Nat.and_two_pow_sub_one_eq_mod, Nat.shiftRight_eq_div_pow]
  unfold hiBit bitAt
  rw [Nat.testBit_eq_decide_div_mod_eq]
  generalize x.toNat / 2 ^ (31 - i) = q
  by_cases h : q % 2 = 1
  · simp [h]
  · simp [h]; omega
/-- a bit more of the word that is built -/
theorem build_step (z : UInt32) (k : Nat) (hk : k < 32) (s : UInt32) (hs : s.toNat = hiBit z k) : UInt32.ofNat (top z k) * 2 + s = UInt32.ofNat (top z (k + 1)) := by
  apply UInt32.toNat_inj.1
  have h1 := top_le z k (by omega)
  have h2 := top_le z (k + 1) (by omega)
  have h3 : 2 ^ k ≤ 2 ^ 31 := Nat.pow_le_pow_right (by omega) (by omega)
  have h4 : 2 ^ (k + 1) ≤ 2 ^ 32 := Nat.pow_le_pow_right (by omega) (by omega)
  have h5 := hiBit_lt z k
  have e2 : (2 : UInt32).toNat = 2 := rfl
  rw [UInt32.toNat_add, UInt32.toNat_mul, e2, ofNat_toNat32 (by omega), ofNat_toNat32 (by omega), hs, top_succ z k hk]
  omega
def mixZ (x : UInt32) (a b c : Nat) (push : Bool) : UInt32 := rotr x a ^^^ rotr x b ^^^ (if push then x >>> UInt32.ofNat c else rotr x c)
theorem hiBit_rotr (x : UInt32) (a k : Nat) (h0 : 0 < a) (ha : a < 32) (hk : k < 32) : hiBit (rotr x a) k = bitI x (((k : Int) - a + 32) % 32) := by
  unfold bitI
  rw [if_neg (show ¬ (((k : Int) - a + 32) % 32 < 0) by omega)]
  unfold hiBit
  rw [bit_rotr x a _ h0 ha (by omega)]
  have : (31 - k + a) % 32 = 31 - (((k : Int) - a + 32) % 32).toNat := by omega
  rw [this]
theorem hiBit_shr (x : UInt32) (c k : Nat) (h0 : 0 < c) (hc : c < 32) (hk : k < 32) : hiBit (x >>> UInt32.ofNat c) k = bitI x ((k : Int) - c) := by
  unfold bitI
  by_cases h : (k : Int) - c < 0
  · rw [if_pos h]
    unfold hiBit
    rw [bit_shr x c _ hc, bit_hi x _ (by omega)]; simp
  · rw [if_neg h]
    unfold hiBit
    rw [bit_shr x c _ hc]
    have : 31 - k + c = 31 - ((k : Int) - c).toNat := by omega
    rw [this]
theorem hiBit_xor (x y : UInt32) (k : Nat) : hiBit (x ^^^ y) k = (hiBit x k + hiBit y k) % 2 := by
  unfold hiBit
  rw [bit_xor]
  cases bitAt x (31 - k) <;> cases bitAt y (31 - k) <;> rfl
theorem mix_bit (x : UInt32) (a b c : Nat) (push : Bool) (ha0 : 0 < a) (ha : a < 32) (hb0 : 0 < b) (hb : b < 32) (hc0 : 0 < c) (hc : c < 32) (k : Nat) (hk : k < 32) :
    hiBit (mixZ x a b c push) k = (bitI x (((k : Int) - a + 32) % 32) + bitI x (((k : Int) - b + 32) % 32) + (if push then bitI x ((k : Int) - c) else bitI x (((k : Int) - c + 32) % 32))) % 2 := by
  unfold mixZ
  rw [hiBit_xor, hiBit_xor, hiBit_rotr x a k ha0 ha hk, hiBit_rotr x b k hb0 hb hk]
  cases push
  · simp only [Bool.false_eq_true, if_false]
    rw [hiBit_rotr x c k hc0 hc hk]; omega
  · simp only [if_true]
    rw [hiBit_shr x c k hc0 hc hk]; omega
theorem three_bits {p q r : Nat} (hp : p < 2) (hq : q < 2) (hr : r < 2) : ((UInt32.ofNat p + UInt32.ofNat q + UInt32.ofNat r) % 2).toNat = (p + q + r) % 2 := by
  have e2 : (2 : UInt32).toNat = 2 := rfl
  rw [UInt32.toNat_mod, UInt32.toNat_add, UInt32.toNat_add, e2, ofNat_toNat32 (by omega), ofNat_toNat32 (by omega), ofNat_toNat32 (by omega)]
  omega
theorem three_half {p q r : Nat} (hp : p < 2) (hq : q < 2) (hr : r < 2) : ((UInt32.ofNat p + UInt32.ofNat q + UInt32.ofNat r) / 2).toNat = (p + q + r) / 2 := by
  have e2 : (2 : UInt32).toNat = 2 := rfl
  rw [UInt32.toNat_div, UInt32.toNat_add, UInt32.toNat_add, e2, ofNat_toNat32 (by omega), ofNat_toNat32 (by omega), ofNat_toNat32 (by omega)]
  omega
theorem ch_bit (e f g : UInt32) (k : Nat) (hk : k < 32) : hiBit (ch e f g) k = if hiBit e k = 1 then hiBit f k else hiBit g k := by
  unfold ch
  unfold hiBit
  rw [bit_xor, bit_and, bit_and, bit_not _ _ (by omega)]
  cases bitAt e (31 - k) <;> cases bitAt f (31 - k) <;> cases bitAt g (31 - k) <;> rfl
theorem maj_bit (a b c : UInt32) (k : Nat) : hiBit (maj a b c) k = (hiBit a k + hiBit b k + hiBit c k) / 2 := by
  unfold maj
  unfold hiBit
  rw [bit_xor, bit_xor, bit_and, bit_and, bit_and]
  cases bitAt a (31 - k) <;> cases bitAt b (31 - k) <;> cases bitAt c (31 - k) <;> rfl
theorem bitI_nat (x : UInt32) (k : Nat) : bitI x (k : Int) = hiBit x k := by
  unfold bitI; rw [if_neg (by omega)]; simp
/-! the schedule, as it is built -/
def zeros (n : Nat) : List UInt32 := List.replicate n 0
/-- so many words of the first sixteen, from the first i bytes -/
def packW (bl : List UInt8) (i : Nat) : List UInt32 := (List.range 64).map fun j => wordOf (((bl.take i).drop (4 * j)).take 4)
theorem length_packW (bl : List UInt8) (i : Nat) : (packW bl i).length = 64 := by simp [packW]
theorem getD_packW (bl : List UInt8) (i j : Nat) (hj : j < 64) : (packW bl i).getD j 0 = wordOf (((bl.take i).drop (4 * j)).take 4) := by
  unfold packW
  rw [List.getD_eq_getElem?_getD, List.getElem?_map, List.getElem?_range hj]
  rfl
theorem packW_zero (bl : List UInt8) : packW bl 0 = zeros 64 := by
  unfold packW zeros
  simp [wordOf, List.map_const']
theorem packW_step (bl : List UInt8) (i : Nat) (hi : i < 64) (hl : bl.length = 64) : (packW bl i).set (i / 4) (wadd ((packW bl i).getD (i / 4) 0) (bl.getD i 0)) = packW bl (i + 1) := by
  apply List.ext_getElem?
  intro j
  by_cases hj : j < 64
  · by_cases e : i / 4 = j
    · subst e
      rw [List.getElem?_set_self (by rw [length_packW]; omega), getD_packW _ _ _ hj]
      unfold packW
      rw [List.getElem?_map, List.getElem?_range hj]
      simp only [Option.map_some, Option.some.injEq]
      have e1 : bl.take (i + 1) = bl.take i ++ [bl.getD i 0] := by
        rw [List.take_succ_eq_append_getElem (by omega), getD_get _ _ _ (by omega)]
      rw [e1, List.drop_append_of_le_length (by simp; omega)]
      have e2 : ((bl.take i).drop (4 * (i / 4))).length < 4 := by simp; omega
      generalize (bl.take i).drop (4 * (i / 4)) = P at e2
      rw [List.take_of_length_le (l := P) (by omega), List.take_of_length_le (l := P ++ [bl.getD i 0]) (by simp; omega)]
      unfold wordOf
      rw [List.foldl_append]; rfl
    · rw [List.getElem?_set_ne e]
      unfold packW
      rw [List.getElem?_map, List.getElem?_map, List.getElem?_range hj]
      simp only [Option.map_some, Option.some.injEq]
      congr 1
      have e1 : bl.take (i + 1) = bl.take i ++ [bl.getD i 0] := by
        rw [List.take_succ_eq_append_getElem (by omega), getD_get _ _ _ (by omega)]
      rw [e1]
      by_cases h2 : 4 * j ≤ i
      · rw [List.drop_append_of_le_length (by simp; omega), List.take_append_of_le_length (by simp; omega)]
      · rw [List.drop_of_length_le (by simp; omega), List.drop_of_length_le (by simp; omega)]
  · rw [List.getElem?_eq_none (by simp [length_packW]; omega), List.getElem?_eq_none (by simp [length_packW]; omega)]
theorem packW_all (bl : List UInt8) (hl : bl.length = 64) : packW bl 64 = first16 bl ++ zeros 48 := by
  unfold packW first16 zeros
  rw [show List.range 64 = List.range 16 ++ (List.range 48).map (16 + ·) from by decide, List.map_append, List.take_of_length_le (by omega)]
  congr 1
  rw [List.map_map]
  rw [List.eq_replicate_iff]
  refine ⟨by simp, fun x hx => ?_⟩
  obtain ⟨k, _, rfl⟩ := List.mem_map.1 hx
  simp only [Function.comp]
  rw [List.drop_of_length_le (by omega)]
  rfl
/-- the words so far, and noughts -/
def padW (ws : List UInt32) : List UInt32 := ws ++ zeros (64 - ws.length)
theorem length_padW (ws : List UInt32) (h : ws.length ≤ 64) : (padW ws).length = 64 := by simp [padW, zeros]; omega
theorem getD_padW (ws : List UInt32) (j : Nat) (h : j < ws.length) : (padW ws).getD j 0 = ws.getD j 0 := by
  unfold padW
  rw [List.getD_eq_getElem?_getD, List.getElem?_append_left h, ← List.getD_eq_getElem?_getD]
theorem set_padW (ws : List UInt32) (x : UInt32) (h : ws.length < 64) : (padW ws).set ws.length x = padW (ws ++ [x]) := by
  unfold padW zeros
  rw [List.set_append_right _ _ (Nat.le_refl _), Nat.sub_self]
  have : 64 - ws.length = (64 - (ws ++ [x]).length) + 1 := by simp; omega
  rw [this, List.replicate_succ]
  simp
theorem extW_padW (ws : List UInt32) (h : ws.length < 64) : (padW ws).set ws.length (nextW ws) = padW (extW ws) := set_padW ws _ h
theorem padW_full (ws : List UInt32) (h : ws.length = 64) : padW ws = ws := by simp [padW, zeros, h]
/-- the reference's: word number i, from the first k of its bytes -/
def halfW (bl : List UInt8) (i k : Nat) : List UInt32 := padW ((first16 bl).take i ++ [wordOf ((bl.drop (4 * i)).take k)])
theorem first16_get (bl : List UInt8) (i : Nat) (hi : i < 16) : (first16 bl)[i]? = some (wordOf ((bl.drop (4 * i)).take 4)) := by
  unfold first16
  rw [List.getElem?_map, List.getElem?_range hi]; rfl
theorem halfW_zero (bl : List UInt8) (i : Nat) (hi : i < 16) : halfW bl i 0 = padW ((first16 bl).take i) := by
  unfold halfW
  have hl : ((first16 bl).take i).length = i := by simp [length_first16]; omega
  have : padW ((first16 bl).take i) = (padW ((first16 bl).take i)).set i 0 := by
    unfold padW zeros
    rw [List.set_append_right _ _ (by omega), hl, Nat.sub_self, show 64 - i = (63 - i) + 1 from by omega, List.replicate_succ]; simp
  rw [this]
  have h2 := set_padW ((first16 bl).take i) 0 (by omega)
  rw [hl] at h2
  rw [h2]
  simp [wordOf]
theorem halfW_four (bl : List UInt8) (i : Nat) (hi : i < 16) : halfW bl i 4 = padW ((first16 bl).take (i + 1)) := by
  unfold halfW
  congr 1
  have h : i < (first16 bl).length := by rw [length_first16]; exact hi
  rw [List.take_succ_eq_append_getElem h]
  have := first16_get bl i hi
  rw [List.getElem?_eq_getElem h] at this
  injection this with this
  rw [this]
theorem length_halfW (bl : List UInt8) (i k : Nat) (hi : i < 16) : (halfW bl i k).length = 64 := by
  unfold halfW; apply length_padW; simp [length_first16]; omega
theorem halfW_get (bl : List UInt8) (i k : Nat) (hi : i < 16) : (halfW bl i k).getD i 0 = wordOf ((bl.drop (4 * i)).take k) := by
  unfold halfW
  have hl : ((first16 bl).take i).length = i := by simp [length_first16]; omega
  rw [getD_padW _ _ (by simp [hl]), List.getD_eq_getElem?_getD, List.getElem?_append_right (by omega), hl]
  simp
theorem halfW_step (bl : List UInt8) (i k : Nat) (hi : i < 16) (hk : k < 4) (hl : bl.length = 64) : (halfW bl i k).set i (wadd ((halfW bl i k).getD i 0) (bl.getD (4 * i + k) 0)) = halfW bl i (k + 1) := by
  rw [halfW_get _ _ _ hi]
  have hl' : ((first16 bl).take i).length = i := by simp [length_first16]; omega
  have e1 : (bl.drop (4 * i)).take (k + 1) = (bl.drop (4 * i)).take k ++ [bl.getD (4 * i + k) 0] := by
    rw [List.take_succ_eq_append_getElem (by simp; omega), getD_get _ _ _ (by omega)]
    simp
  unfold halfW
  rw [e1]
  have e2 : wordOf ((bl.drop (4 * i)).take k ++ [bl.getD (4 * i + k) 0]) = wadd (wordOf ((bl.drop (4 * i)).take k)) (bl.getD (4 * i + k) 0) := by
    unfold wordOf; rw [List.foldl_append]; rfl
  rw [e2]
  unfold padW
  rw [List.set_append_left _ _ (by simp [hl']), List.set_append_right _ _ (by omega), hl']
  simp
theorem ssig0_mix (x : UInt32) : ssig0 x = mixZ x 7 18 3 true := rfl
theorem ssig1_mix (x : UInt32) : ssig1 x = mixZ x 17 19 10 true := rfl
theorem bsig0_mix (x : UInt32) : bsig0 x = mixZ x 2 13 22 false := rfl
theorem bsig1_mix (x : UInt32) : bsig1 x = mixZ x 6 11 25 false := rfl

/-! pressing -/
def addWords (v u : Words) : Words := ⟨v.a + u.a, v.b + u.b, v.c + u.c, v.d + u.d, v.e + u.e, v.f + u.f, v.g + u.g, v.h + u.h⟩
def roundsN (ks ws : List UInt32) (v : Words) : Nat → Words
  | 0 => v
  | i + 1 => roundOf (roundsN ks ws v i) (ws.getD i 0 + ks.getD i 0)
def pressOf (ks : List UInt32) (v : Words) (bl : List UInt8) : Words := addWords (roundsN ks (sched bl) v 64) v
def pressN (ks : List UInt32) (v : Words) (all : List UInt8) : Nat → Words
  | 0 => v
  | k + 1 => pressOf ks (pressN ks v all k) ((all.drop (64 * k)).take 64)
def bytesOf (x : UInt32) : List UInt8 := [(x >>> UInt32.ofNat 24).toUInt8, (x >>> UInt32.ofNat 16).toUInt8, (x >>> UInt32.ofNat 8).toUInt8, x.toUInt8]
def lenB (n : Nat) : List UInt8 := (List.range 8).map fun i => UInt8.ofNat (8 * n / 2 ^ (56 - 8 * i))
def tailOf (n : Nat) : List UInt8 := [128] ++ List.replicate ((119 - n % 64) % 64) 0 ++ lenB n
theorem length_tailOf (n : Nat) : (tailOf n).length = 9 + (119 - n % 64) % 64 := by simp [tailOf, lenB]; omega
theorem whole_tailOf (n : Nat) : (n + (tailOf n).length) % 64 = 0 := by rw [length_tailOf]; omega
def begin8 : Words := ⟨0x6a09e667, 0xbb67ae85, 0x3c6ef372, 0xa54ff53a, 0x510e527f, 0x9b05688c, 0x1f83d9ab, 0x5be0cd19⟩
def digest (ks : List UInt32) (v : Words) (l : List UInt8) : List UInt8 :=
  (pressN ks v (l ++ tailOf l.length) ((l.length + (tailOf l.length).length) / 64)).list.flatMap bytesOf
theorem length_digest (ks v l) : (digest ks v l).length = 32 := by simp [digest, Words.list, bytesOf]
theorem byte_shr (x : UInt32) (n : Nat) (hn : n < 32) : (x >>> UInt32.ofNat n).toUInt8 = UInt8.ofNat (x.toNat / 2 ^ n) := by
  apply UInt8.toNat_inj.1
  simp [UInt32.toNat_shiftRight, Nat.shiftRight_eq_div_pow, Nat.mod_eq_of_lt hn, Nat.mod_eq_of_lt (show n < 4294967296 by omega)]
/-- a round can be gone back -/
theorem round_inj {v w : Words} {n : UInt32} (h : roundOf v n = roundOf w n) : v = w := by
  cases v; cases w
  simp only [roundOf, Words.mk.injEq] at h
  obtain ⟨h1, h2, h3, h4, h5, h6, h7, h8⟩ := h
  subst h2; subst h3; subst h4; subst h6; subst h7; subst h8
  have h9 := (UInt32.add_left_inj _).1 h1
  rw [h9] at h5
  have h10 := (UInt32.add_left_inj _).1 h5
  have h11 := (UInt32.add_left_inj _).1 h9
  have h12 := (UInt32.add_left_inj _).1 h11
  have h13 := (UInt32.add_left_inj _).1 h12
  rw [h10, h13]
theorem top_done (z : UInt32) : UInt32.ofNat (top z 32) = z := by rw [top_all]; simp
end Go.Ch
