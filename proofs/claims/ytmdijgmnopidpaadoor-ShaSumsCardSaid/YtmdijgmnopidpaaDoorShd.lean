import Derived.Test.YtmdijgmnopidpaaDoorShc
import Derived.Test.YtmdijgmnopidpaaDoorPu
set_option linter.unusedVariables false
set_option linter.unusedSimpArgs false
namespace Go.Proofs.YtmdijgmnopidpaaDoor
open Go.RowKit Go.Ch Go.Sx

theorem refsum_l2_run (n : Nat) (ks : List UInt32) (h0 h1 h2 h3 h4 h5 h6 h7 : UInt32) (a1 : List UInt8) (w6 : List UInt32) (k : List UInt32 → Int → Option (List UInt8)) (A : List UInt8) (hA : a1 ++ tailOf a1.length = A) (i : Nat) (hi : i + 64 ≤ A.length) (hA2 : A.length ≤ 1000000) (hk : ks.length = 64) :
    ∀ (m j fu : Nat), j + m = 64 → m < fu → refsum_l2 n ks h0 h1 h2 h3 h4 h5 h6 h7 a1 w6 (i : Int) k fu (filN 0 (A.drop i) j 64) (j : Int) = k (pressL ks w6 ((A.drop i).take 64)) ((i : Int) + 64) := by
  intro m
  induction m with
  | zero =>
    intro j fu hj hf
    obtain rfl : j = 64 := by omega
    cases fu with
    | zero => omega
    | succ fu =>
      rw [refsum_l2, ite_f (by simp), gd_pos hk, gd_pos (okI64 (by omega) (by omega)), filN_all]
  | succ m ih =>
    intro j fu hj hf
    cases fu with
    | zero => omega
    | succ fu =>
      simp only [refsum_l2, List.nil_append, Int.toNat_natCast, hA]
      rw [ite_t (by simp; omega), gd_pos (okI64 (by omega) (by omega)), gd_pos (by omega), gd_pos (by omega), gd_pos (by omega), gd_pos (by omega), gd_pos (okI64 (by omega) (by omega))]
      rw [show ((i : Int) + (j : Int)).toNat = i + j by omega, ← getD_drop, filN_set _ _ _ _ (by omega) (by simp; omega)]
      have := ih (j + 1) fu (by omega) (by omega)
      rw [Int.natCast_add] at this
      exact this
theorem u32_div (x : UInt32) : [(x / (16777216 : UInt32)).toUInt8, (x / (65536 : UInt32)).toUInt8, (x / (256 : UInt32)).toUInt8, x.toUInt8] = bytesOf x := by
  have d : ∀ (k : Nat) (m : UInt32), k < 32 → m.toNat = 2 ^ k → x / m = x >>> UInt32.ofNat k := by
    intro k m hk hm
    apply UInt32.toNat_inj.1
    rw [UInt32.toNat_div, hm, UInt32.toNat_shiftRight, Nat.shiftRight_eq_div_pow]
    simp [Nat.mod_eq_of_lt hk, Nat.mod_eq_of_lt (show k < 4294967296 by omega)]
  unfold bytesOf
  rw [d 24 16777216 (by omega) rfl, d 16 65536 (by omega) rfl, d 8 256 (by omega) rfl]
theorem refsum_l3_run (n : Nat) (w : List UInt32) (hw : w.length = 8) : ∀ (m j fu : Nat), j + m = 8 → m < fu → refsum_l3 n w fu ((w.take j).flatMap bytesOf) (j : Int) = some (w.flatMap bytesOf) := by
  intro m
  induction m with
  | zero =>
    intro j fu hj hf
    obtain rfl : j = 8 := by omega
    cases fu with
    | zero => omega
    | succ fu => rw [refsum_l3, ite_f (by simp), List.take_of_length_le (by omega)]
  | succ m ih =>
    intro j fu hj hf
    cases fu with
    | zero => omega
    | succ fu =>
      have hl : ∀ (l : List UInt32), (l.flatMap bytesOf).length = 4 * l.length := by
        intro l
        induction l with
        | nil => rfl
        | cons x l ih => simp only [List.flatMap_cons, List.length_append, ih, List.length_cons]; simp [bytesOf]; omega
      have hr : rmB (((w.take j).flatMap bytesOf).length + 4) 1 := by unfold rmB; rw [hl, List.length_take]; omega
      simp only [refsum_l3, Int.toNat_natCast]
      rw [ite_t (by simp; omega), gd_pos (by omega), gd_pos (by omega), gd_pos (by decide), gd_pos (by omega), gd_pos (by omega), gd_pos (by decide), gd_pos (by omega), gd_pos (by omega), gd_pos (by decide), gd_pos (by omega), gd_pos (by omega), gd_pos hr, gd_pos (okI64 (by omega) (by omega))]
      rw [u32_div]
      have := ih (j + 1) fu (by omega) (by omega)
      rw [Int.natCast_add, List.take_succ_eq_append_getElem (by omega), List.flatMap_append] at this
      rw [List.getD_eq_getElem?_getD, List.getElem?_eq_getElem (by omega)]
      simpa using this
theorem refsum_l1_run (n : Nat) (hn : 100 ≤ n) (ks : List UInt32) (h0 h1 h2 h3 h4 h5 h6 h7 : UInt32) (a1 : List UInt8) (V : Words) (A : List UInt8) (hA : a1 ++ tailOf a1.length = A) (q : Nat) (hq : A.length = 64 * q) (hA2 : A.length ≤ 1000000) (hk : ks.length = 64) :
    ∀ (m j fu : Nat), j + m = q → m < fu → refsum_l1 n ks h0 h1 h2 h3 h4 h5 h6 h7 a1 fu (pressN ks V A j).list ((64 * j : Nat) : Int) = some ((pressN ks V A q).list.flatMap bytesOf) := by
  intro m
  induction m with
  | zero =>
    intro j fu hj hf
    obtain rfl : j = q := by omega
    cases fu with
    | zero => omega
    | succ fu =>
      simp only [refsum_l1, List.nil_append, Int.toNat_natCast, hA]
      rw [ite_f (by simp; omega)]
      exact refsum_l3_run n _ rfl 8 0 n (by omega) (by omega)
  | succ m ih =>
    intro j fu hj hf
    cases fu with
    | zero => omega
    | succ fu =>
      simp only [refsum_l1, List.nil_append, Int.toNat_natCast, hA]
      rw [ite_t (by simp; omega), ← filN_zero 0 (A.drop (64 * j)) 64]
      have := refsum_l2_run n ks h0 h1 h2 h3 h4 h5 h6 h7 a1 (pressN ks V A j).list (refsum_l1 n ks h0 h1 h2 h3 h4 h5 h6 h7 a1 fu) A hA (64 * j) (by omega) hA2 hk 64 0 n (by omega) (by omega)
      rw [show ((0 : Nat) : Int) = 0 from rfl] at this
      rw [this]
      have h2 := ih (j + 1) fu (by omega) (by omega)
      rw [show ((64 * (j + 1) : Nat) : Int) = ((64 * j : Nat) : Int) + 64 by omega] at h2
      exact h2
theorem refsum_run (n : Nat) (ks : List UInt32) (V : Words) (a1 : List UInt8) (ha : a1.length ≤ 5000) (hn : 200 ≤ n) (hk : ks.length = 64) :
    refsum n ks V.a V.b V.c V.d V.e V.f V.g V.h a1 = some (digest ks V a1) := by
  have hl := length_tailOf a1.length
  have hw := whole_tailOf a1.length
  unfold refsum
  rw [gd_pos (by unfold rmB; omega), gd_pos (by omega), gd_pos (by omega), gd_pos (by unfold rmB; simp only [List.nil_append, Int.toNat_natCast]; omega), gd_pos (by omega)]
  have hlen : (a1 ++ tailOf a1.length).length = 64 * ((a1.length + (tailOf a1.length).length) / 64) := by rw [List.length_append]; omega
  exact refsum_l1_run n (by omega) ks V.a V.b V.c V.d V.e V.f V.g V.h a1 V _ rfl _ hlen (by rw [List.length_append]; omega) hk ((a1.length + (tailOf a1.length).length) / 64) 0 n (by omega) (by omega)
theorem refbegin_is : refbegin 200 = some begin8.list := by decide +kernel
theorem shasums_true (b : List UInt8) : shasums 200 b = some true := by
  have hc : ∃ r, cut 200 b 2000 = some r ∧ r.1.length ≤ 2000 := by
    unfold cut
    by_cases h : (2000 : Int) < (b.length : Int)
    · rw [ite_t (by simpa using h), gd_pos (by omega), gd_pos (by omega)]
      exact ⟨_, rfl, by simp only [List.drop_zero, List.length_take]; omega⟩
    · rw [ite_f (by simpa using h)]
      exact ⟨_, rfl, by simp; omega⟩
  obtain ⟨r, hr, hl⟩ := hc
  have hm : made 200 = some (begin8.a, begin8.b, begin8.c, begin8.d, begin8.e, begin8.f, begin8.g, begin8.h) := by
    unfold made; rw [refbegin_is]; rfl
  have hs := refsum_run 200 consts begin8 r.1 (by omega) (by omega) rfl
  unfold shasums
  rw [hr, Option.bind_some, gd_pos (by omega), hm, Option.bind_some, hs, Option.bind_some]
  simp
theorem sums_c (w : World) (B : Nat) (v : Value) (l : List UInt8) (hv : Sl w B v (l.map bU)) (hG : GK w) :
    Calls Tryd.prog 7 #[v] w (Ret fun v' w' => Ext w w' ∧ v' = .bool true) := by
  obtain ⟨p, h1, h2⟩ := in_b hv 5
  exact law_of (shasums_ok 200 true) (args := [.c (.wh 0)]) (H := [⟨.ro false, 5, 1, l.length, .b l⟩]) (ρ := plL [p]) (vals := [v]) rfl (allP_cons.2 ⟨shasums_true l, allP_nil⟩) hG (hpL (ps := [p]) (F2.cons h2 F2.nil)) (F2.cons h1 F2.nil)
end Go.Proofs.YtmdijgmnopidpaaDoor
