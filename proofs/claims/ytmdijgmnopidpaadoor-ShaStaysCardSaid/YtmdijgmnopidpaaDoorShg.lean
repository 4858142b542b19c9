import Derived.Test.YtmdijgmnopidpaaDoorShf
import Derived.Test.YtmdijgmnopidpaaDoorPu
set_option linter.unusedVariables false
set_option linter.unusedSimpArgs false
namespace Go.Proofs.YtmdijgmnopidpaaDoor
open Go.RowKit Go.Ch Go.Sx

theorem tail_l1_run (n : Nat) (a : Int) (h0 : 0 ≤ a) (ha : a ≤ 281474976710656) : ∀ (m fu : Nat) (l : List UInt8), m ≤ 8 → m < fu → 0 < l.length → l.length + m ≤ 100 →
    ∃ r, tail_l1 n a fu l (8 * (m : Int) - 8) = some r ∧ r.2 = none ∧ r.1.length ≤ l.length + m ∧ 0 < r.1.length ∧ r.1.getD 0 0 = l.getD 0 0 := by
  intro m
  induction m with
  | zero =>
    intro fu l _ hf hl _
    cases fu with
    | zero => omega
    | succ fu =>
      rw [tail_l1, ite_f (by simp)]
      exact ⟨_, rfl, rfl, by simp, hl, rfl⟩
  | succ m ih =>
    intro fu l hm hf hl hll
    cases fu with
    | zero => omega
    | succ fu =>
      rw [tail_l1, ite_t (by simp; omega), gd_pos (okI64 (by omega) (by omega)), gd_pos (by omega), gd_pos (by show _ ≤ ((64 : Nat) : Int); omega), gd_pos (by unfold rmB; omega), gd_pos (okI64 (by omega) (by omega))]
      rw [show 8 * ((m + 1 : Nat) : Int) - 8 - 8 = 8 * (m : Int) - 8 by omega]
      obtain ⟨r, h1, h2, h3, h4, h5⟩ := ih fu (l ++ [UInt8.ofInt (8 * a / 2 ^ (8 * ((m + 1 : Nat) : Int) - 8).toNat)]) (by omega) (by omega) (by simp) (by rw [List.length_append, List.length_singleton]; omega)
      refine ⟨r, h1, h2, by simp at h3; omega, h4, ?_⟩
      rw [h5, List.getD_eq_getElem?_getD, List.getD_eq_getElem?_getD, List.getElem?_append_left hl]
theorem tail_l2_run (n : Nat) (hn : 100 ≤ n) (a : Int) (h0 : 0 ≤ a) (ha : a ≤ 281474976710656) : ∀ (m fu : Nat) (l : List UInt8), (a + (l.length : Int) + 8 + (m : Int)) % 64 = 0 → m < 64 → m < fu → 0 < l.length → l.length + m ≤ 70 →
    ∃ r, tail_l2 n a fu l = some r ∧ r.2 = none ∧ r.1.length ≤ 100 ∧ 0 < r.1.length ∧ r.1.getD 0 0 = l.getD 0 0 := by
  intro m
  induction m with
  | zero =>
    intro fu l hm _ hf hl hll
    cases fu with
    | zero => omega
    | succ fu =>
      have ht : Int.tmod (a + (l.length : Int) + 8) 64 = (a + (l.length : Int) + 8) % 64 := Int.tmod_eq_emod_of_nonneg (by omega)
      rw [tail_l2, gd_pos (okI64 (by omega) (by omega)), gd_pos (okI64 (by omega) (by omega)), gd_pos (by decide), ite_f (by rw [ht]; simp; omega)]
      obtain ⟨r, h1, h2, h3, h4, h5⟩ := tail_l1_run n a h0 ha 8 n l (by omega) (by omega) hl (by omega)
      exact ⟨r, h1, h2, by omega, h4, h5⟩
  | succ m ih =>
    intro fu l hm hm2 hf hl hll
    cases fu with
    | zero => omega
    | succ fu =>
      have ht : Int.tmod (a + (l.length : Int) + 8) 64 = (a + (l.length : Int) + 8) % 64 := Int.tmod_eq_emod_of_nonneg (by omega)
      rw [tail_l2, gd_pos (okI64 (by omega) (by omega)), gd_pos (okI64 (by omega) (by omega)), gd_pos (by decide), ite_t (by rw [ht]; simp; omega), gd_pos (by unfold rmB; omega)]
      obtain ⟨r, h1, h2, h3, h4, h5⟩ := ih fu (l ++ [0]) (by simp; omega) (by omega) (by omega) (by simp) (by simp; omega)
      refine ⟨r, h1, h2, h3, h4, ?_⟩
      rw [h5, List.getD_eq_getElem?_getD, List.getD_eq_getElem?_getD, List.getElem?_append_left hl]
theorem tail_run (n : Nat) (hn : 100 ≤ n) (a : Int) : ∃ r, tail n a = some r ∧ r.1.length ≤ 100 ∧ (r.2 = none → 0 < r.1.length ∧ r.1.getD 0 0 = 128) := by
  unfold tail
  by_cases h0 : a < 0
  · rw [ite_t (by simpa using h0)]; exact ⟨_, rfl, by simp, fun h => by cases h⟩
  · rw [ite_f (by simpa using h0)]
    by_cases h1 : (281474976710656 : Int) < a
    · rw [ite_t (by simpa using h1)]; exact ⟨_, rfl, by simp, fun h => by cases h⟩
    · rw [ite_f (by simpa using h1)]
      obtain ⟨r, e1, e2, e3, e4, e5⟩ := tail_l2_run n hn a (by omega) (by omega) ((64 - (a + 9) % 64) % 64).toNat n [128] (by simp; omega) (by omega) (by omega) (by simp) (by simp; omega)
      exact ⟨r, e1, e3, fun _ => ⟨e4, e5⟩⟩
theorem cut_run (n : Nat) (b : List UInt8) (k : Int) (hk : 0 ≤ k) : ∃ r, cutS n b k = some r ∧ (r.1.length : Int) ≤ k ∧ (r.2 : Int) ≤ k := by
  unfold cutS
  by_cases h : k < (b.length : Int)
  · rw [ite_t (by simpa using h), gd_pos (by omega), gd_pos (by omega)]
    exact ⟨_, rfl, by simp only [List.drop_zero, List.length_take]; omega, by simp only; omega⟩
  · rw [ite_f (by simpa using h)]
    exact ⟨_, rfl, by simp only; omega, by simp only; omega⟩
theorem stays_l4_run (n : Nat) (r : List UInt8 × Nat) (t : List UInt8 × Option Int) (ht : t.2 = none → 0 < t.1.length ∧ t.1.getD 0 0 = 128) (L : List UInt8) (hL : L.length = 32) (hF : L.map (fun x => x - 1) = digest consts begin8 r.1) :
    ∀ (m j fu : Nat), j + m = 32 → m < fu → stays_l4 n r t fu (upN (fun x => x - 1) L j) (j : Int) = some true := by
  have hd : (digest consts begin8 ([] ++ r.1)).length = 32 := length_digest _ _ _
  intro m
  induction m with
  | zero =>
    intro j fu hj hf
    obtain rfl : j = 32 := by omega
    cases fu with
    | zero => omega
    | succ fu =>
      rw [stays_l4, ite_f (by simp only [decide_eq_false_iff_not]; omega), ite_t (by simp), ite_t (by rw [upN_all _ _ _ (by omega), hF]; simp)]
      cases h2 : t.2 with
      | some e => rfl
      | none =>
        obtain ⟨h3, h4⟩ := ht h2
        rw [ite_f (by simp), ite_t (by simp; omega), gd_pos (by omega), gd_pos (by omega), h4]
        rfl
  | succ m ih =>
    intro j fu hj hf
    cases fu with
    | zero => omega
    | succ fu =>
      simp only [stays_l4, Int.toNat_natCast]
      rw [ite_t (by simp only [decide_eq_true_eq]; omega), gd_pos (by omega), gd_pos (by rw [hd]; omega), gd_pos (by omega), gd_pos (by rw [hd]; omega), gd_pos (okI64 (by omega) (by omega))]
      rw [upN_set 0 (fun x => x - 1) L j (by omega)]
      have := ih (j + 1) fu (by omega) (by omega)
      rw [Int.natCast_add] at this
      exact this
theorem stays_l3_run (n : Nat) (hn : 3000 ≤ n) (a : Int) (r : List UInt8 × Nat) (t : List UInt8 × Option Int) (hta : tail n a = some t) (hl : t.1.length ≤ 100) (ht : t.2 = none → 0 < t.1.length ∧ t.1.getD 0 0 = 128) (L : List UInt8) (hL : L.length = 32) (hF : L.map (fun x => x - 1) = digest consts begin8 r.1) :
    ∀ (m j fu : Nat), j + m = t.1.length → m < fu → stays_l3 n a r L t fu (upN (fun x => x + 1) t.1 j) (j : Int) = some true := by
  intro m
  induction m with
  | zero =>
    intro j fu hj hf
    cases fu with
    | zero => omega
    | succ fu =>
      rw [stays_l3, ite_f (by simp; omega), hta, Option.bind_some]
      have := stays_l4_run n r t ht L hL hF 32 0 n (by omega) (by omega)
      rw [upN_zero] at this
      exact this
  | succ m ih =>
    intro j fu hj hf
    cases fu with
    | zero => omega
    | succ fu =>
      simp only [stays_l3, Int.toNat_natCast]
      rw [ite_t (by simp; omega), gd_pos (by omega), gd_pos (by omega), gd_pos (by omega), gd_pos (by omega), gd_pos (okI64 (by omega) (by omega))]
      rw [upN_set 0 (fun x => x + 1) t.1 j (by omega)]
      have := ih (j + 1) fu (by omega) (by omega)
      rw [Int.natCast_add] at this
      exact this
theorem stays_l2_run (n : Nat) (hn : 3000 ≤ n) (a : Int) (r : List UInt8 × Nat) (hr : r.1.length ≤ 2000) (L : List UInt8) (hL : L.length = 32) (hF : L.map (fun x => x - 1) = digest consts begin8 r.1) :
    ∀ (m j fu : Nat), j + m = r.1.length → m < fu → stays_l2 n a r L fu (upN (fun x => x + 1) r.1 j) (j : Int) = some true := by
  intro m
  induction m with
  | zero =>
    intro j fu hj hf
    cases fu with
    | zero => omega
    | succ fu =>
      obtain ⟨t, h1, h2, h3⟩ := tail_run n (by omega) a
      simp only [stays_l2, List.nil_append]
      rw [ite_f (by simp; omega), gd_pos (by omega), h1, Option.bind_some]
      have := stays_l3_run n hn a r t h1 h2 h3 L hL hF t.1.length 0 n (by omega) (by omega)
      rw [upN_zero] at this
      exact this
  | succ m ih =>
    intro j fu hj hf
    cases fu with
    | zero => omega
    | succ fu =>
      simp only [stays_l2, List.nil_append, Int.toNat_natCast]
      rw [ite_t (by simp; omega), gd_pos (by omega), gd_pos (by omega), gd_pos (by omega), gd_pos (by omega), gd_pos (okI64 (by omega) (by omega))]
      rw [upN_set 0 (fun x => x + 1) r.1 j (by omega)]
      have := ih (j + 1) fu (by omega) (by omega)
      rw [Int.natCast_add] at this
      exact this
theorem stays_l1_run (n : Nat) (hn : 3000 ≤ n) (a : Int) (r : List UInt8 × Nat) (hr : r.1.length ≤ 2000) :
    ∀ (m j fu : Nat), j + m = 32 → m < fu → stays_l1 n a r fu (upN (fun x => x + 1) (digest consts begin8 r.1) j) (j : Int) = some true := by
  have hd : (digest consts begin8 r.1).length = 32 := length_digest _ _ _
  intro m
  induction m with
  | zero =>
    intro j fu hj hf
    cases fu with
    | zero => omega
    | succ fu =>
      simp only [stays_l1, List.nil_append]
      rw [ite_f (by simp only [decide_eq_false_iff_not]; omega), upN_all _ _ _ (by omega)]
      have := stays_l2_run n hn a r hr ((digest consts begin8 r.1).map fun x => x + 1) (by rw [List.length_map, hd]) (by rw [List.map_map]; exact (List.map_congr_left (fun x _ => by simp)).trans (List.map_id _)) r.1.length 0 n (by omega) (by omega)
      rw [upN_zero] at this
      exact this
  | succ m ih =>
    intro j fu hj hf
    cases fu with
    | zero => omega
    | succ fu =>
      simp only [stays_l1, List.nil_append, Int.toNat_natCast]
      rw [ite_t (by simp only [decide_eq_true_eq]; omega), gd_pos (by omega), gd_pos (by rw [hd]; omega), gd_pos (by omega), gd_pos (by rw [hd]; omega), gd_pos (okI64 (by omega) (by omega))]
      rw [upN_set 0 (fun x => x + 1) _ j (by omega)]
      have := ih (j + 1) fu (by omega) (by omega)
      rw [Int.natCast_add] at this
      exact this
theorem stays_true (b : List UInt8) (a : Int) : stays 3000 b a = some true := by
  obtain ⟨r, h1, h2, h3⟩ := cut_run 3000 b 2000 (by omega)
  unfold stays
  rw [h1, Option.bind_some, gd_pos (by unfold rmB; omega)]
  simp only [List.nil_append]
  rw [gd_pos (by omega)]
  have := stays_l1_run 3000 (by omega) a r (by omega) 32 0 3000 (by omega) (by omega)
  rw [upN_zero] at this
  exact this
theorem stays_c (w : World) (B : Nat) (v : Value) (l : List UInt8) (hv : Sl w B v (l.map bU)) (n : Int) (_ : (Lit.int .i64 n).wf = true) (hG : GK w) :
    Calls Tryd.prog 10 #[v, .int .i64 n] w (Ret fun v' w' => Ext w w' ∧ v' = .bool true) := by
  obtain ⟨p, h1, h2⟩ := in_b hv 5
  exact law_of (stays_ok 3000 true) (args := [.c (.wh 0), .c (.s (.k .i64 n))]) (H := [⟨.ro false, 5, 1, l.length, .b l⟩]) (ρ := plL [p]) (vals := [v, .int .i64 n]) rfl (allP_cons.2 ⟨stays_true l n, allP_nil⟩) hG (hpL (ps := [p]) (F2.cons h2 F2.nil)) (F2.cons h1 (F2.cons rfl F2.nil))
end Go.Proofs.YtmdijgmnopidpaaDoor
