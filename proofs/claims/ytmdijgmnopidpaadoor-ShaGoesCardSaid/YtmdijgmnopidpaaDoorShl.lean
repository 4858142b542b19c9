import Derived.Test.YtmdijgmnopidpaaDoorShk
import Derived.Test.YtmdijgmnopidpaaDoorPu
set_option linter.unusedVariables false
set_option linter.unusedSimpArgs false
namespace Go.Proofs.YtmdijgmnopidpaaDoor
open Go.RowKit Go.Ch Go.Sx

theorem ofInt_nat (n : Nat) : UInt8.ofInt (n : Int) = UInt8.ofNat n := by
  apply UInt8.toBitVec_inj.1
  simp [UInt8.ofInt, UInt8.ofNat]
  have e : ((n : Int) % 256).toNat = n % 256 := by omega
  rw [e]
  apply BitVec.eq_of_toNat_eq
  simp
def lenAt (k i : Nat) : UInt8 := UInt8.ofNat (8 * k / 2 ^ (56 - 8 * i))
theorem tail_l1_is (n k : Nat) (hk : k ≤ 281474976710656) : ∀ (m fu : Nat) (l : List UInt8), m ≤ 8 → m < fu → l.length + m ≤ 100 →
    tail_l1 n (k : Int) fu l (8 * (m : Int) - 8) = some (l ++ ((List.range 8).drop (8 - m)).map (lenAt k), none) := by
  intro m
  induction m with
  | zero =>
    intro fu l _ hf _
    cases fu with
    | zero => omega
    | succ fu => rw [tail_l1, ite_f (by simp)]; simp
  | succ m ih =>
    intro fu l hm hf hll
    cases fu with
    | zero => omega
    | succ fu =>
      rw [tail_l1, ite_t (by simp; omega), gd_pos (okI64 (by omega) (by omega)), gd_pos (by omega), gd_pos (by show _ ≤ ((64 : Nat) : Int); omega), gd_pos (by unfold rmB; omega), gd_pos (okI64 (by omega) (by omega))]
      rw [show 8 * ((m + 1 : Nat) : Int) - 8 - 8 = 8 * (m : Int) - 8 by omega, ih fu _ (by omega) (by omega) (by rw [List.length_append, List.length_singleton]; omega)]
      have e1 : (8 * ((m + 1 : Nat) : Int) - 8).toNat = 56 - 8 * (8 - (m + 1)) := by omega
      have e2 : UInt8.ofInt (8 * (k : Int) / 2 ^ (8 * ((m + 1 : Nat) : Int) - 8).toNat) = lenAt k (8 - (m + 1)) := by
        rw [e1]
        unfold lenAt
        rw [← ofInt_nat]
        congr 1
        try simp
      have e3 : (List.range 8).drop (8 - (m + 1)) = (8 - (m + 1)) :: (List.range 8).drop (8 - m) := by
        refine (List.drop_eq_getElem_cons (by simp; omega)).trans ?_
        rw [List.getElem_range, show 8 - (m + 1) + 1 = 8 - m by omega]
      rw [e2, e3, List.map_cons, List.append_assoc]
      try rfl
theorem tail_l2_is (n : Nat) (hn : 100 ≤ n) (k : Nat) (hk : k ≤ 281474976710656) : ∀ (m j fu : Nat), j + m = (119 - k % 64) % 64 → m < fu →
    tail_l2 n (k : Int) fu ([128] ++ List.replicate j 0) = some (tailOf k, none) := by
  intro m
  induction m with
  | zero =>
    intro j fu hj hf
    cases fu with
    | zero => omega
    | succ fu =>
      have hl : ([128] ++ List.replicate j (0 : UInt8)).length = 1 + j := by simp; omega
      have ht : Int.tmod ((k : Int) + ((1 + j : Nat) : Int) + 8) 64 = ((k : Int) + ((1 + j : Nat) : Int) + 8) % 64 := Int.tmod_eq_emod_of_nonneg (by omega)
      rw [tail_l2, hl, gd_pos (okI64 (by omega) (by omega)), gd_pos (okI64 (by omega) (by omega)), gd_pos (by decide), ite_f (by rw [ht]; simp; omega)]
      have := tail_l1_is n k hk 8 n ([128] ++ List.replicate j 0) (by omega) (by omega) (by rw [hl]; omega)
      rw [show 8 * ((8 : Nat) : Int) - 8 = 56 by omega] at this
      unfold tail_j1
      rw [this]
      obtain rfl : j = (119 - k % 64) % 64 := by omega
      rfl
  | succ m ih =>
    intro j fu hj hf
    cases fu with
    | zero => omega
    | succ fu =>
      have hl : ([128] ++ List.replicate j (0 : UInt8)).length = 1 + j := by simp; omega
      have ht : Int.tmod ((k : Int) + ((1 + j : Nat) : Int) + 8) 64 = ((k : Int) + ((1 + j : Nat) : Int) + 8) % 64 := Int.tmod_eq_emod_of_nonneg (by omega)
      rw [tail_l2, hl, gd_pos (okI64 (by omega) (by omega)), gd_pos (okI64 (by omega) (by omega)), gd_pos (by decide), ite_t (by rw [ht]; simp; omega), gd_pos (by unfold rmB; omega)]
      rw [List.append_assoc, ← List.replicate_succ']
      exact ih (j + 1) fu (by omega) (by omega)
theorem tail_is (n : Nat) (hn : 100 ≤ n) (k : Nat) (hk : k ≤ 281474976710656) : tail n (k : Int) = some (tailOf k, none) := by
  unfold tail
  rw [ite_f (by simp), ite_f (by simp; omega)]
  exact tail_l2_is n hn k hk ((119 - k % 64) % 64) 0 n (by omega) (by omega)
theorem byte_at (V : Words) : ∀ i, i < 32 → (V.list.flatMap bytesOf).getD i 0 = (shr32 (V.list.getD (i / 4) 0) (24 - 8 * ((i % 4 : Nat) : Int))).toUInt8
  | 0, _ => rfl | 1, _ => rfl | 2, _ => rfl | 3, _ => rfl | 4, _ => rfl | 5, _ => rfl | 6, _ => rfl | 7, _ => rfl
  | 8, _ => rfl | 9, _ => rfl | 10, _ => rfl | 11, _ => rfl | 12, _ => rfl | 13, _ => rfl | 14, _ => rfl | 15, _ => rfl
  | 16, _ => rfl | 17, _ => rfl | 18, _ => rfl | 19, _ => rfl | 20, _ => rfl | 21, _ => rfl | 22, _ => rfl | 23, _ => rfl
  | 24, _ => rfl | 25, _ => rfl | 26, _ => rfl | 27, _ => rfl | 28, _ => rfl | 29, _ => rfl | 30, _ => rfl | 31, _ => rfl
  | n + 32, h => absurd h (by omega)
theorem goes_l2_run (n : Nat) (r : List UInt8 × Nat) (V : Words) (hV : digest consts begin8 r.1 = V.list.flatMap bytesOf) :
    ∀ (m j fu : Nat), j + m = 32 → m < fu → goes_l2 n r V.list fu (j : Int) = some true := by
  have hd : (digest consts begin8 r.1).length = 32 := length_digest _ _ _
  intro m
  induction m with
  | zero =>
    intro j fu hj hf
    cases fu with
    | zero => omega
    | succ fu => rw [goes_l2, ite_f (by simp; omega)]
  | succ m ih =>
    intro j fu hj hf
    cases fu with
    | zero => omega
    | succ fu =>
      have t1 : Int.tdiv (j : Int) 4 = ((j / 4 : Nat) : Int) := rfl
      have t2 : Int.tmod (j : Int) 4 = ((j % 4 : Nat) : Int) := rfl
      rw [goes_l2, ite_t (by simp; omega), t1, t2, gd_pos (by omega), gd_pos (by omega), gd_pos (by decide), gd_pos (okI64 (by omega) (by omega)), gd_pos (by omega), gd_pos (by omega), gd_pos (by decide), gd_pos (okI64 (by omega) (by omega)), gd_pos (okI64 (by omega) (by omega)), gd_pos (by omega)]
      rw [ite_f, gd_pos (okI64 (by omega) (by omega))]
      · have := ih (j + 1) fu (by omega) (by omega)
        rw [Int.natCast_add] at this
        exact this
      · rw [hV, Int.toNat_natCast, Int.toNat_natCast, byte_at V j (by omega)]
        simp
theorem goes_l1_run (n : Nat) (hn : 200 ≤ n) (r : List UInt8 × Nat) (hr : r.1.length ≤ 3000) (A : List UInt8) (hA : r.1 ++ tailOf r.1.length = A) (q : Nat) (hq : A.length = 64 * q) (hA2 : A.length ≤ 4000) :
    ∀ (m j fu : Nat), j + m = q → m < fu → goes_l1 n r (tailOf r.1.length, none) fu (pressN consts begin8 A j).list ((64 * j : Nat) : Int) = some true := by
  have hd : (digest consts begin8 r.1).length = 32 := length_digest _ _ _
  intro m
  induction m with
  | zero =>
    intro j fu hj hf
    obtain rfl : j = q := by omega
    cases fu with
    | zero => omega
    | succ fu =>
      simp only [goes_l1, List.nil_append, hA]
      rw [ite_f (by simp; omega), gd_pos (by omega), hd]
      rw [ite_f (by decide)]
      refine goes_l2_run n r _ ?_ 32 0 n (by omega) (by omega)
      unfold digest
      rw [hA]
      congr 3
      have := congrArg List.length hA
      rw [List.length_append] at this
      omega
  | succ m ih =>
    intro j fu hj hf
    cases fu with
    | zero => omega
    | succ fu =>
      have hi : (((64 * j : Nat) : Int) + 64).toNat - ((64 * j : Nat) : Int).toNat = 64 := by omega
      simp only [goes_l1, List.nil_append, hA, hi]
      rw [ite_t (by simp; omega), gd_pos (okI64 (by omega) (by omega)), gd_pos (by omega), gd_pos (by omega), gd_pos (by omega), gd_pos (okI64 (by omega) (by omega))]
      have hb : ((List.replicate 64 (0 : UInt8)).take 0 ++ ((A.drop ((64 * j : Nat) : Int).toNat).take 64).take (min 64 64) ++ (List.replicate 64 (0 : UInt8)).drop (0 + min 64 64)) = (A.drop (64 * j)).take 64 := by
        rw [Int.toNat_natCast, List.take_take]
        simp
      rw [hb]
      have h2 := ih (j + 1) fu (by omega) (by omega)
      rw [show ((64 * (j + 1) : Nat) : Int) = ((64 * j : Nat) : Int) + 64 by omega] at h2
      exact h2
theorem cut_is (n : Nat) (b : List UInt8) (k : Int) (hk : 0 ≤ k) : ∃ r, cutS n b k = some r ∧ (r.1.length : Int) ≤ k ∧ r.2 = r.1.length := by
  unfold cutS
  by_cases h : k < (b.length : Int)
  · rw [ite_t (by simpa using h), gd_pos (by omega), gd_pos (by omega)]
    exact ⟨_, rfl, by simp only [List.drop_zero, List.length_take]; omega, by simp only [List.drop_zero, List.length_take]; omega⟩
  · rw [ite_f (by simpa using h)]
    exact ⟨_, rfl, by simp only; omega, rfl⟩
theorem goes_true (b : List UInt8) : goes 200 b = some true := by
  obtain ⟨r, h1, h2, h3⟩ := cut_is 200 b 3000 (by omega)
  have hl := length_tailOf r.1.length
  have hw := whole_tailOf r.1.length
  unfold goes
  rw [h1, Option.bind_some, h3, tail_is 200 (by omega) r.1.length (by omega), Option.bind_some, gd_pos (by unfold rmB; omega)]
  simp only [List.nil_append]
  rw [gd_pos (by unfold rmB; omega), ite_f (by rfl), gd_pos (by decide), ite_f]
  · have hlen : (r.1 ++ tailOf r.1.length).length = 64 * ((r.1.length + (tailOf r.1.length).length) / 64) := by rw [List.length_append]; omega
    exact goes_l1_run 200 (by omega) r (by omega) _ rfl _ hlen (by rw [List.length_append]; omega) ((r.1.length + (tailOf r.1.length).length) / 64) 0 200 (by omega) (by omega)
  · have t : Int.tmod (((r.1 ++ tailOf r.1.length).length : Nat) : Int) 64 = (((r.1 ++ tailOf r.1.length).length % 64 : Nat) : Int) := rfl
    rw [t, List.length_append, hw]
    rfl
theorem goes_c (w : World) (B : Nat) (v : Value) (l : List UInt8) (hv : Sl w B v (l.map bU)) (hG : GK w) :
    Calls Tryd.prog 9 #[v] w (Ret fun v' w' => Ext w w' ∧ v' = .bool true) := by
  obtain ⟨p, h1, h2⟩ := in_b hv 5
  exact law_of (goes_ok 200 true) (args := [.c (.wh 0)]) (H := [⟨.ro false, 5, 1, l.length, .b l⟩]) (ρ := plL [p]) (vals := [v]) rfl (allP_cons.2 ⟨goes_true l, allP_nil⟩) hG (hpL (ps := [p]) (F2.cons h2 F2.nil)) (F2.cons h1 F2.nil)
end Go.Proofs.YtmdijgmnopidpaaDoor
