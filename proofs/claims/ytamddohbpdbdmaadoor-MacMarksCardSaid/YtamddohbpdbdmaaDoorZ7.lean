import Derived.Test.YtamddohbpdbdmaaDoorZ6
import Derived.Test.YtamddohbpdbdmaaDoorProg
section
set_option linter.unusedVariables false
set_option linter.unusedSimpArgs false
namespace Go.Sx
open Go Go.RowKit Go.Ch Go.Proofs.YtamddohbpdbdmaaDoor
theorem refsum_l2_run (n : Nat) (ks : List UInt32) (h0 h1 h2 h3 h4 h5 h6 h7 : UInt32) (a1 : List UInt8) (w6 : List UInt32) (k : List UInt32 → Int → Option (List UInt8)) (A : List UInt8) (hA : a1 ++ tailOf a1.length = A) (i : Nat) (hi : i + 64 ≤ A.length) (hA2 : A.length ≤ 1000000) (hk : ks.length = 64) :
    ∀ (m j fu : Nat), j + m = 64 → m < fu → refsum_l2 n ks h0 h1 h2 h3 h4 h5 h6 h7 a1 w6 (i : Int) k fu (filN 0 (A.drop i) j 64) (j : Int) = k (pressL ks w6 ((A.drop i).take 64)) ((i : Int) + 64) := by
  intro m
  induction m with
  | zero =>
    intro j fu hj hf
    obtain rfl : j = 64 := by omega
    cases fu with
    | zero => omega
    | succ fu =>
      rw [refsum_l2, ite_f (by simp), gd_pos hk, gd_pos (okI64 (by omega) (by omega)), filN_all]
  | succ m ih =>
    intro j fu hj hf
    cases fu with
    | zero => omega
    | succ fu =>
      simp only [refsum_l2, List.nil_append, Int.toNat_natCast, hA]
      rw [ite_t (by simp; omega), gd_pos (okI64 (by omega) (by omega)), gd_pos (by omega), gd_pos (by omega), gd_pos (by omega), gd_pos (by omega), gd_pos (okI64 (by omega) (by omega))]
      rw [show ((i : Int) + (j : Int)).toNat = i + j by omega, ← getD_drop, filN_set _ _ _ _ (by omega) (by simp; omega)]
      have := ih (j + 1) fu (by omega) (by omega)
      rw [Int.natCast_add] at this
      exact this
theorem u32_div (x : UInt32) : [(x / (16777216 : UInt32)).toUInt8, (x / (65536 : UInt32)).toUInt8, (x / (256 : UInt32)).toUInt8, x.toUInt8] = bytesOf x := by
  have d : ∀ (k : Nat) (m : UInt32), k < 32 → m.toNat = 2 ^ k → x / m = x >>> UInt32.ofNat k := by
    intro k m hk hm
    apply UInt32.toNat_inj.1
    rw [UInt32.toNat_div, hm, UInt32.toNat_shiftRight, Nat.shiftRight_eq_div_pow]
    simp [Nat.mod_eq_of_lt hk, Nat.mod_eq_of_lt (show k < 4294967296 by omega)]
  unfold bytesOf
  rw [d 24 16777216 (by omega) rfl, d 16 65536 (by omega) rfl, d 8 256 (by omega) rfl]
theorem refsum_l3_run (n : Nat) (w : List UInt32) (hw : w.length = 8) : ∀ (m j fu : Nat), j + m = 8 → m < fu → refsum_l3 n w fu ((w.take j).flatMap bytesOf) (j : Int) = some (w.flatMap bytesOf) := by
  intro m
  induction m with
  | zero =>
    intro j fu hj hf
    obtain rfl : j = 8 := by omega
    cases fu with
    | zero => omega
    | succ fu => rw [refsum_l3, ite_f (by simp), List.take_of_length_le (by omega)]
  | succ m ih =>
    intro j fu hj hf
    cases fu with
    | zero => omega
    | succ fu =>
      have hl : ∀ (l : List UInt32), (l.flatMap bytesOf).length = 4 * l.length := by
        intro l
        induction l with
        | nil => rfl
        | cons x l ih => simp only [List.flatMap_cons, List.length_append, ih, List.length_cons]; simp [bytesOf]; omega
      have hr : rmB (((w.take j).flatMap bytesOf).length + 4) 1 := by unfold rmB; rw [hl, List.length_take]; omega
      simp only [refsum_l3, Int.toNat_natCast]
      rw [ite_t (by simp; omega), gd_pos (by omega), gd_pos (by omega), gd_pos (by decide), gd_pos (by omega), gd_pos (by omega), gd_pos (by decide), gd_pos (by omega), gd_pos (by omega), gd_pos (by decide), gd_pos (by omega), gd_pos (by omega), gd_pos hr, gd_pos (okI64 (by omega) (by omega))]
      rw [u32_div]
      have := ih (j + 1) fu (by omega) (by omega)
      rw [Int.natCast_add, List.take_succ_eq_append_getElem (by omega), List.flatMap_append] at this
      rw [List.getD_eq_getElem?_getD, List.getElem?_eq_getElem (by omega)]
      simpa using this
theorem refsum_l1_run (n : Nat) (hn : 100 ≤ n) (ks : List UInt32) (h0 h1 h2 h3 h4 h5 h6 h7 : UInt32) (a1 : List UInt8) (V : Words) (A : List UInt8) (hA : a1 ++ tailOf a1.length = A) (q : Nat) (hq : A.length = 64 * q) (hA2 : A.length ≤ 1000000) (hk : ks.length = 64) :
    ∀ (m j fu : Nat), j + m = q → m < fu → refsum_l1 n ks h0 h1 h2 h3 h4 h5 h6 h7 a1 fu (pressN ks V A j).list ((64 * j : Nat) : Int) = some ((pressN ks V A q).list.flatMap bytesOf) := by
  intro m
  induction m with
  | zero =>
    intro j fu hj hf
    obtain rfl : j = q := by omega
    cases fu with
    | zero => omega
    | succ fu =>
      simp only [refsum_l1, List.nil_append, Int.toNat_natCast, hA]
      rw [ite_f (by simp; omega)]
      exact refsum_l3_run n _ rfl 8 0 n (by omega) (by omega)
  | succ m ih =>
    intro j fu hj hf
    cases fu with
    | zero => omega
    | succ fu =>
      simp only [refsum_l1, List.nil_append, Int.toNat_natCast, hA]
      rw [ite_t (by simp; omega), ← filN_zero 0 (A.drop (64 * j)) 64]
      have := refsum_l2_run n ks h0 h1 h2 h3 h4 h5 h6 h7 a1 (pressN ks V A j).list (refsum_l1 n ks h0 h1 h2 h3 h4 h5 h6 h7 a1 fu) A hA (64 * j) (by omega) hA2 hk 64 0 n (by omega) (by omega)
      rw [show ((0 : Nat) : Int) = 0 from rfl] at this
      rw [this]
      have h2 := ih (j + 1) fu (by omega) (by omega)
      rw [show ((64 * (j + 1) : Nat) : Int) = ((64 * j : Nat) : Int) + 64 by omega] at h2
      exact h2
theorem refsum_run (n : Nat) (ks : List UInt32) (V : Words) (a1 : List UInt8) (ha : a1.length ≤ 5000) (hn : 200 ≤ n) (hk : ks.length = 64) :
    refsum n ks V.a V.b V.c V.d V.e V.f V.g V.h a1 = some (digest ks V a1) := by
  have hl := length_tailOf a1.length
  have hw := whole_tailOf a1.length
  unfold refsum
  rw [gd_pos (by unfold rmB; omega), gd_pos (by omega), gd_pos (by omega), gd_pos (by unfold rmB; simp only [List.nil_append, Int.toNat_natCast]; omega), gd_pos (by omega)]
  have hlen : (a1 ++ tailOf a1.length).length = 64 * ((a1.length + (tailOf a1.length).length) / 64) := by rw [List.length_append]; omega
  exact refsum_l1_run n (by omega) ks V.a V.b V.c V.d V.e V.f V.g V.h a1 V _ rfl _ hlen (by rw [List.length_append]; omega) hk ((a1.length + (tailOf a1.length).length) / 64) 0 n (by omega) (by omega)
theorem sumN {n : Nat} (hn : 200 ≤ n) {l : List UInt8} (hl : l.length ≤ 5000) : refsum n consts begin8.a begin8.b begin8.c begin8.d begin8.e begin8.f begin8.g begin8.h l = some (Dg l) := refsum_run n consts begin8 l hl hn consts_len
theorem rconstants_is : rconstants N64 = some consts := by decide +kernel
theorem refbegin_is : refbegin N64 = some begin8.list := by decide +kernel
theorem made_is : made N64 = some (consts, begin8.a, begin8.b, begin8.c, begin8.d, begin8.e, begin8.f, begin8.g, begin8.h) := by
  unfold made; rw [rconstants_is, refbegin_is]; rfl
theorem rMark_l1_is {n : Nat} (hn : 200 ≤ n) (b k : List UInt8) (hk : k.length ≤ 64) (hb : b.length ≤ 4000) : ∀ (m i fu : Nat), i + m = 64 → m < fu →
    rMark_l1 n consts begin8.a begin8.b begin8.c begin8.d begin8.e begin8.f begin8.g begin8.h b k fu (((padk k).take i).map (· ^^^ 54)) (((padk k).take i).map (· ^^^ 92)) (i : Int) = some (Dg ((padk k).map (· ^^^ 92) ++ Dg ((padk k).map (· ^^^ 54) ++ b))) := by
  have hl := padk_len hk
  intro m
  induction m with
  | zero =>
    intro i fu hi hf
    cases fu with
    | zero => omega
    | succ fu =>
      rw [List.take_of_length_le (by omega), rMark_l1, ite_f (by simp <;> omega), gd_pos (by unfold rmB; simp; omega), sumN hn (by simp [hl]; omega), Option.bind_some, gd_pos (by unfold rmB; simp [length_digest]; omega), sumN hn (by simp [hl, length_digest]), Option.bind_some]
  | succ m ih =>
    intro i fu hi hf
    cases fu with
    | zero => omega
    | succ fu =>
      have step : ∀ x : UInt8, x = (padk k).getD i 0 → rMark_j2 n consts begin8.a begin8.b begin8.c begin8.d begin8.e begin8.f begin8.g begin8.h b k (((padk k).take i).map (· ^^^ 54)) (((padk k).take i).map (· ^^^ 92)) (i : Int) (rMark_l1 n consts begin8.a begin8.b begin8.c begin8.d begin8.e begin8.f begin8.g begin8.h b k fu) x = some (Dg ((padk k).map (· ^^^ 92) ++ Dg ((padk k).map (· ^^^ 54) ++ b))) := by
        intro x hx
        unfold rMark_j2
        rw [gd_pos (by unfold rmB; simp; omega), gd_pos (by unfold rmB; simp; omega), gd_pos (okI64 (by omega) (by omega))]
        have := ih (i + 1) fu (by omega) (by omega)
        rw [List.take_succ_eq_append_getElem (by omega), List.map_append, List.map_append] at this
        rw [hx, List.getD_eq_getElem?_getD, List.getElem?_eq_getElem (by omega)]
        exact this
      rw [rMark_l1, ite_t (by simp <;> omega)]
      by_cases hik : i < k.length
      · rw [ite_t (by simp <;> omega), gd_pos (by omega), gd_pos (by omega)]
        refine step _ ?_
        unfold padk
        rw [Int.toNat_natCast, List.getD_eq_getElem?_getD, List.getD_eq_getElem?_getD, List.getElem?_append_left hik]
      · rw [ite_f (by simp <;> omega)]
        refine step _ ?_
        unfold padk
        rw [List.getD_eq_getElem?_getD, List.getElem?_append_right (by omega), List.getElem?_replicate]
        split <;> rfl
theorem rMark_is {n : Nat} (hn : 200 ≤ n) {k b : List UInt8} (hk : k.length ≤ 4000) (hb : b.length ≤ 4000) :
    rMark n consts begin8.a begin8.b begin8.c begin8.d begin8.e begin8.f begin8.g begin8.h k b = some (hmac k b) := by
  have go : ∀ k : List UInt8, k.length ≤ 64 → rMark_j1 n consts begin8.a begin8.b begin8.c begin8.d begin8.e begin8.f begin8.g begin8.h b k = some (Dg ((padk k).map (· ^^^ 92) ++ Dg ((padk k).map (· ^^^ 54) ++ b))) := by
    intro k hk
    unfold rMark_j1
    exact rMark_l1_is hn b k hk hb 64 0 n (by omega) (by omega)
  unfold rMark hmac
  have hl := hkey_len k
  by_cases h : 64 < k.length
  · rw [ite_t (by simp <;> omega), sumN hn (by omega), Option.bind_some, go _ (by rw [length_digest]; omega)]
    unfold hkey; rw [if_pos h]
  · rw [ite_f (by simp <;> omega), go _ (by omega)]
    unfold hkey; rw [if_neg h]
end Go.Sx
end
section
set_option linter.unusedVariables false
set_option linter.unusedSimpArgs false
namespace Go.Proofs.YtamddohbpdbdmaaDoor
open Go.RowKit Go.Ch Go.Sx

def tabL_mvmarks : List (TypeId × Ti) := [(5, ⟨.int .u8, 1, 1, true, some [.int .u8]⟩),
  (9, ⟨.str, 1, 16, true, some [.str]⟩),
  (22, ⟨.sl 5, 1, 24, false, some [.nils]⟩)]
def tab_mvmarks : Tab := fun t => (tabL_mvmarks).lookup t
theorem tabE_mvmarks : (tabL_mvmarks.map fun p => tiOf Tryd.prog p.1) = tabL_mvmarks.map fun p => some p.2 := by kernel_rfl
theorem tabO_mvmarks : TabOk Tryd.prog tab_mvmarks := tab_of tabE_mvmarks

def lMarks (n : Nat) (a0 : List UInt8) (a1 : List UInt8) : Option (Bool) :=
  (mup n).bind fun r6 =>
  (mcut n a0 500).bind fun r8 =>
  (mcut n a1 500).bind fun r10 =>
  bif r6 then
    (mMark n ((a0.drop 0).take r8.2) ((a1.drop 0).take r10.2)).bind fun r15 =>
    (made n).bind fun r17 =>
    (rMark n r17.1 r17.2.1 r17.2.2.1 r17.2.2.2.1 r17.2.2.2.2.1 r17.2.2.2.2.2.1 r17.2.2.2.2.2.2.1 r17.2.2.2.2.2.2.2.1 r17.2.2.2.2.2.2.2.2 ((a0.drop 0).take r8.2) ((a1.drop 0).take r10.2)).bind fun r20 =>
    some (r15 == r20)
  else
    some false

def lMarks_R (r : Bool) : S := ⟨[(4, .c (.s (.b r)))], [], []⟩
def lMarks_ct (n : Nat) (r : Bool) : Ct := fun args H => match args with
  | [x0, x1] => (match aB H x0 with | some l0 => (match aB H x1 with | some l1 => some ([lMarks n l0 l1 = some r], shA H.length (.c (.s (.b r))), shH H.length []) | none => none) | none => none)
  | _ => none
theorem lMarks_ok (n : Nat) (r : Bool) : FnOk Tryd.prog GK 3 (lMarks_ct n r) := by
  refine ⟨fun args H g av objs hF hg ρ w vals hG hp ha => ?_, _, Tryd.func3, by kernel_rfl, by kernel_rfl⟩
  obtain ⟨x0, x1, rfl⟩ : ∃ x0 x1, args = [x0, x1] := by
    unfold lMarks_ct at hF; split at hF
    · exact ⟨_, _, rfl⟩
    · cases hF
  cases e0 : aB H x0 with
  | none => simp only [lMarks_ct, e0, reduceCtorEq] at hF
  | some l0 =>
  cases e1 : aB H x1 with
  | none => simp only [lMarks_ct, e0, e1, reduceCtorEq] at hF
  | some l1 =>
  simp only [lMarks_ct, e0, e1, Option.some.injEq, Prod.mk.injEq] at hF
  obtain ⟨rfl, rfl, rfl⟩ := hF
  obtain ⟨v0, vals, rfl, k0, ha⟩ := F2.inv ha
  obtain ⟨v1, vals, rfl, k1, ha⟩ := F2.inv ha
  obtain rfl := F2.inv0 ha
  have hI : ∀ w', Kp (noB (fun _ => undef)) w w' → GK w' := fun _ hk => GK.keep hk.below hG
  have h : lMarks n l0 l1 = some r := hg
  obtain ⟨p0, s0, o0⟩ := aB_ok hp e0 (k0) 5
  obtain ⟨p1, s1, o1⟩ := aB_ok hp e1 (k1) 5
  have hR0 := rel0 (gv := (fun _ => undef)) (n := 24) (w := w) (args := [.c (.wh 0), .c (.wh 1)]) (H := [⟨.ro false, 5, 1, l0.length, .b l0⟩, ⟨.ro false, 5, 1, l1.length, .b l1⟩]) (gl := []) (hpL (ps := [p0, p1]) (F2.cons o0 (F2.cons o1 F2.nil))) (allRo_ok rfl) (F2.cons s0 (F2.cons s1 F2.nil)) GlR.nil (by simp)
  clear ha hp hg k0 k1 e0 e1
  refine calls_W Tryd.func3 rfl rfl hR0 (Q := fun e s => (e = .ret ∨ e = .normal) ∧ s = lMarks_R r) ?_ ?_
  · clear hR0
    unfold lMarks at h
    have hT := tabO_mvmarks
    refine W_seq ?_
    refine W_reg hT ftL_nil [] [] [0, 1] [0, 1] (s' := ⟨[(0, .c (.wh 0)), (1, .c (.wh 1))], [], [⟨(.ro false), 5, 1, l0.length, .b l0⟩, ⟨(.ro false), 5, 1, l1.length, .b l1⟩]⟩) (by kernel_rfl) allP_nil ?_
    refine W_seq ?_
    obtain ⟨r6, g1, h⟩ := bind_some' h
    refine W_reg hT (ftL_cons (k := 0) (f := 9) (F := (mup_ct n r6)) (mup_ok n r6) hI ftL_nil) [] [] [0, 1, 5] [0, 1] (s' := ⟨[(0, .c (.wh 0)), (1, .c (.wh 1)), (5, .c (.s (.b r6)))], [], [⟨(.ro false), 5, 1, l0.length, .b l0⟩, ⟨(.ro false), 5, 1, l1.length, .b l1⟩]⟩) (by kernel_rfl) (allP_cons.2 ⟨g1, allP_nil⟩) ?_
    refine W_seq ?_
    obtain ⟨r8, g2, h⟩ := bind_some' h
    refine W_reg hT (ftL_cons (k := 1) (f := 10) (F := (mcut_ct n r8)) (mcut_ok n r8) (fun _ _ => True.intro) ftL_nil) [] [] [0, 1, 5] [0, 1] (s' := ⟨[(0, .c (.sl 0 0 r8.2)), (1, .c (.wh 1)), (5, .c (.s (.b r6)))], [], [⟨(.ro false), 5, 1, l0.length, .b l0⟩, ⟨(.ro false), 5, 1, l1.length, .b l1⟩]⟩) (by kernel_rfl) (allP_cons.2 ⟨g2, allP_nil⟩) ?_
    refine W_seq ?_
    obtain ⟨r10, g3, h⟩ := bind_some' h
    refine W_reg hT (ftL_cons (k := 1) (f := 10) (F := (mcut_ct n r10)) (mcut_ok n r10) (fun _ _ => True.intro) ftL_nil) [] [] [0, 1, 5] [0, 1] (s' := ⟨[(0, .c (.sl 0 0 r8.2)), (1, .c (.sl 1 0 r10.2)), (5, .c (.s (.b r6)))], [], [⟨(.ro false), 5, 1, l0.length, .b l0⟩, ⟨(.ro false), 5, 1, l1.length, .b l1⟩]⟩) (by kernel_rfl) (allP_cons.2 ⟨g3, allP_nil⟩) ?_
    refine W_seq ?_
    rcases Bool.eq_false_or_eq_true r6 with g4 | g4
    · replace h := bif_t h g4
      obtain ⟨r15, g5, h⟩ := bind_some' h
      obtain ⟨r17, g6, h⟩ := bind_some' h
      obtain ⟨r20, g7, h⟩ := bind_some' h
      refine W_regD hT (ftL_cons (k := 4) (f := 11) (F := (mMark_ct n r15)) (mMark_ok n r15) hI (ftL_cons (k := 6) (f := 13) (F := (made_ct n r17)) (made_ok n r17) (fun _ _ => True.intro) (ftL_cons (k := 9) (f := 12) (F := (rMark_ct n r20)) (rMark_ok n r20) (fun _ _ => True.intro) ftL_nil))) (by kernel_rfl) 11 [(1, true)] [(12, false), (16, false), (21, false)] [] [4] [] (s' := ⟨[(4, .c (.s (.b (r15 == r20))))], [], []⟩) (by kernel_rfl) (by kernel_rfl) (allP_cons.2 ⟨g4, (allP_cons.2 ⟨g5, (allP_cons.2 ⟨g6, (allP_cons.2 ⟨g7, allP_nil⟩)⟩)⟩)⟩) ?_
      refine W_co [] [4] [] (s' := (lMarks_R (r15 == r20))) (by kernel_rfl) (W_ret ?_)
      exact ⟨.inl rfl, by cases h; rfl⟩
    · replace h := bif_f h g4
      refine W_regD hT ftL_nil (by kernel_rfl) 11 [(1, false)] [(12, false), (16, false), (21, false)] [] [4] [] (s' := ⟨[(4, .c (.s (.b false)))], [], []⟩) (by kernel_rfl) (by kernel_rfl) (allP_cons.2 ⟨g4, allP_nil⟩) ?_
      refine W_co [] [4] [] (s' := (lMarks_R false)) (by kernel_rfl) (W_ret ?_)
      exact ⟨.inl rfl, by cases h; rfl⟩
  · rintro e s' ⟨he, rfl⟩
    refine ⟨he, fun a' w' hr => ?_⟩
    exact retS_ok tabO_mvmarks hr (rs := [.tmp 4]) rfl (objs := []) (by kernel_rfl)
end Go.Proofs.YtamddohbpdbdmaaDoor
end
section
set_option linter.unusedVariables false
set_option linter.unusedSimpArgs false
namespace Go.Sx
open Go Go.RowKit Go.Ch Go.Proofs.YtamddohbpdbdmaaDoor
theorem lMarks_is (a0 a1 : List UInt8) : lMarks N64 a0 a1 = some true := by
  obtain ⟨m0, e0, l0, _⟩ := mcut_is N64 a0 500
  obtain ⟨m1, e1, l1, _⟩ := mcut_is N64 a1 500
  rw [show ((500 : Nat) : Int) = 500 from rfl] at e0 e1
  unfold lMarks
  rw [mup_is, Option.bind_some, e0, Option.bind_some, e1, Option.bind_some, cond_true]
  dsimp only
  rw [mMark_is (by decide) (by omega) (by omega), Option.bind_some, made_is, Option.bind_some]
  dsimp only
  rw [rMark_is (by decide) (by omega) (by omega), Option.bind_some]
  simp
end Go.Sx
namespace Go.Proofs.YtamddohbpdbdmaaDoor
open Go.RowKit Go.Ch Go.Sx
theorem macMarks_c (w : World) (B0 : Nat) (v0 : Value) (l0 : List UInt8) (hv0 : Sl w B0 v0 (l0.map bU)) (B1 : Nat) (v1 : Value) (l1 : List UInt8) (hv1 : Sl w B1 v1 (l1.map bU)) (hG : GK w) :
    Calls Tryd.prog 3 #[v0, v1] w (Ret fun v' w' => Ext w w' ∧ v' = .bool true) := by
  obtain ⟨p0, a0, b0⟩ := in_b hv0 5
  obtain ⟨p1, a1, b1⟩ := in_b hv1 5
  exact law_of (lMarks_ok N64 true) (args := [.c (.wh 0), .c (.wh 1)]) (H := [⟨.ro false, 5, 1, l0.length, .b l0⟩, ⟨.ro false, 5, 1, l1.length, .b l1⟩]) (ρ := plL [p0, p1]) (vals := [v0, v1]) rfl (allP_cons.2 ⟨lMarks_is l0 l1, allP_nil⟩) hG (hpL (ps := [p0, p1]) (F2.cons b0 (F2.cons b1 F2.nil))) (F2.cons a0 (F2.cons a1 F2.nil))
end Go.Proofs.YtamddohbpdbdmaaDoor
end
