import Derived.Test.YtmdijgmnopidpaaRg
import Derived.Test.YtmdijgmnopidpaaProg
namespace Go.Proofs.Ytmdijgmnopidpaa
open Go.RowKit Go.Ch

theorem info5 : (Try.prog.info? 5).map (fun i => (i.zero, i.size, i.bytes)) = some (some (.int .u8 0), 1, 1) := by kernel_rfl

set_option maxHeartbeats 400000 in
theorem cut_c (w : World) (B : Nat) (v : Value) (xs : List Value) (n : Nat) (hv : Sl w B v xs) :
    Calls Try.prog 5 #[v, .int .i64 (n : Int)] w (Ret fun v' w' => w' = w ∧ Sl w B v' (xs.take n)) := by
  obtain ⟨i5, hi5, hz5, hs5, hb5⟩ := info_parts info5
  by_cases hc : n < xs.length
  all_goals
    go_enter Try.func5, Try.ntmps5
    go_wp2_with (first
      | ((with_reducible refine g_at (d := 6) ?_); refine wpl_len rfl Try.underlying22 hv ?_)
      | ((with_reducible refine g_at (d := 11) ?_); refine wpl_slice_to rfl rfl Try.underlying22 hi5 hv rfl (by first | omega | (simp <;> omega)) ?_; intro v11 h11))
    go_ret
  · exact ⟨_, rfl, rfl, h11⟩
  · exact ⟨_, rfl, rfl, by rw [List.take_of_length_le (by omega)]; exact hv⟩

set_option maxHeartbeats 400000 in
theorem clone_c (w : World) (B : Nat) (v : Value) (l : List UInt8) (hv : Sl w B v (l.map bU)) (hl : l.length ≤ 1000000000000) :
    Calls Try.prog 10 #[v] w (Ret fun v' w' => Ext w w' ∧ Own w' w.heap.size 5 v' (l.map bU)) := by
  obtain ⟨i5, hi5, hz5, hs5, hb5⟩ := info_parts info5
  go_enter Try.func10, Try.ntmps10
  go_wp2_with (first
    | ((with_reducible refine g_at (d := 4) ?_); refine wpl_eq_nil rfl Try.underlying22 hv ?_; intro b4 hb4)
    | ((with_reducible refine g_at (d := 5) ?_); refine wpl_buildSlice (vs := []) Try.underlying22 hi5 hz5 hs5 rfl (xs := []) rfl rfl rfl (by simp) (by omega) ?_; intro v5 w5 h5 hx5 ha5)
    | ((with_reducible refine g_at (d := 7) ?_); refine wpl_append (v := v5) rfl rfl Try.underlying22 hi5 hz5 hs5 hb5 rfl h5 (hv.ext hx5) (bU_one l) (by first | omega | (simp <;> omega)) (by omega) hx5.size ?_; intro v7 w7 h7 hg7 ha7 hx7))
  · go_ret
    have := hb4 (by assumption)
    exact ⟨_, rfl, Below.refl _ _, by rw [this]; exact World.ownsRow_nil _ _ _ _⟩
  · go_ret
    exact ⟨_, rfl, hx5.trans hx7, by simpa using h7⟩

def fillL (l : List UInt8) : List UInt8 := l ++ List.replicate (16 - l.length % 16) (UInt8.ofNat (16 - l.length % 16))
theorem size_fillL (l : List UInt8) : (fillL l).length = l.length + (16 - l.length % 16) := by simp [fillL]
theorem size_fillL16 (l : List UInt8) : (fillL l).length % 16 = 0 ∧ 0 < (fillL l).length := by rw [size_fillL]; omega

set_option maxHeartbeats 400000 in
theorem fill_c (w : World) (B : Nat) (v : Value) (l : List UInt8) (hv : Sl w B v (l.map bU)) (hl : l.length ≤ 100000000000) :
    Calls Try.prog 8 #[v] w (Ret fun v' w' => Ext w w' ∧ Own w' w.heap.size 5 v' ((fillL l).map bU)) := by
  obtain ⟨i5, hi5, hz5, hs5, hb5⟩ := info_parts info5
  go_enter Try.func8, Try.ntmps8
  go_wp2_with (first
    | ((with_reducible refine g_at (d := 6) ?_); refine wpl_len rfl Try.underlying22 hv ?_)
    | ((with_reducible refine g_at (d := 10) ?_); refine wpl_call Try.func10 (by kernel_rfl) (by kernel_rfl) rfl (clone_c _ _ _ l hv (by omega)) ?_; rintro v10 w10 ⟨hx1, h1⟩))
  generalize hn : 16 - l.length % 16 = n
  have en : (16 - (l.length : Int) % 16) = (n : Int) := by omega
  have hn16 : n ≤ 16 := by omega
  simp only [en]
  have HN := Lib.hid hn
  clear hn en
  go_loopw [4, 12] (fun o i wr => ∃ k : Nat, k ≤ n ∧ i = .int .i64 k ∧ Own wr w.heap.size 5 o ((l ++ List.replicate k (UInt8.ofNat n)).map bU) ∧ Ext w wr) (fun _ i _ => n - (intOf i).toNat)
  case atStart => exact ⟨0, Nat.zero_le _, rfl, by simpa using h1, hx1⟩
  case round =>
    obtain ⟨k, hk, rfl, ho, hx⟩ := hrel
    by_cases hlt : k < n
    · have E8 : Hid (Value.int .u8 (n : Int) = bU (UInt8.ofNat n)) := Lib.hid (by simp [bU]; omega)
      go_wp2_with (first
        | ((with_reducible refine g_at (d := 17) ?_); refine wpl_buildSlice (vs := [.int .u8 n]) Try.underlying22 hi5 hz5 hs5 rfl (xs := [(.tmp 16)]) rfl rfl rfl (by intro u hu; simp at hu; subst hu; rfl) (by omega) ?_; intro v17 w17 h17 hx17 ha17)
        | ((with_reducible refine g_at (d := 18) ?_); refine wpl_append (v := u4) rfl rfl Try.underlying22 hi5 hz5 hs5 hb5 rfl (ho.ext hx17) h17.sl (by rw [E8.out]; exact bU_one [_]) (by first | omega | (simp <;> omega)) (by omega) (Nat.le_trans hx.size hx17.size) ?_; intro v18 w18 h18 hg18 ha18 hx18))
      go_roundw
      case rel => exact ⟨k + 1, by omega, by go_num, by rw [E8.out] at h18; simpa [List.replicate_succ'] using h18, (hx.tr hx17).trans hx18⟩
      case measure => simp [intOf]; omega
    · go_wp2
      go_ret
      obtain rfl : k = n := by omega
      exact ⟨_, rfl, hx, by unfold fillL; rw [HN.out]; exact ho⟩

set_option maxHeartbeats 400000 in
theorem rfill_c (w : World) (B : Nat) (v : Value) (l : List UInt8) (hv : Sl w B v (l.map bU)) (hl : l.length ≤ 100000000000) :
    Calls Try.prog 9 #[v] w (Ret fun v' w' => Ext w w' ∧ Own w' w.heap.size 5 v' ((fillL l).map bU)) := by
  obtain ⟨i5, hi5, hz5, hs5, hb5⟩ := info_parts info5
  go_enter Try.func9, Try.ntmps9
  go_wp2_with (first
    | ((with_reducible refine g_at (d := 6) ?_); refine wpl_buildSlice (vs := []) Try.underlying22 hi5 hz5 hs5 rfl (xs := []) rfl rfl rfl (by simp) (by omega) ?_; intro v6 w6 h6 hx6 ha6)
    | ((with_reducible refine g_at (d := 8) ?_); refine wpl_append (v := v6) rfl rfl Try.underlying22 hi5 hz5 hs5 hb5 rfl h6 (hv.ext hx6) (bU_one l) (by first | omega | (simp <;> omega)) (by omega) hx6.size ?_; intro v8 w8 h8 hg8 ha8 hx8)
    | ((with_reducible refine g_at (d := 10) ?_); refine wpl_len rfl Try.underlying22 ((hv.ext hx6).below (hx8.mono hv.1)) ?_))
  have h1 : Own w8 w.heap.size 5 v8 (l.map bU) := by simpa using h8
  have hx1 : Ext w w8 := hx6.trans hx8
  clear h8 hg8 ha8 hx8 h6 hx6 ha6
  generalize hn : 16 - l.length % 16 = n
  have en : (16 - (l.length : Int) % 16) = (n : Int) := by omega
  have hn16 : n ≤ 16 := by omega
  simp only [en]
  have HN := Lib.hid hn
  clear hn en
  go_loopw [3, 5] (fun o i wr => ∃ k : Nat, k ≤ n ∧ i = .int .i64 k ∧ Own wr w.heap.size 5 o ((l ++ List.replicate k (UInt8.ofNat n)).map bU) ∧ Ext w wr) (fun _ i _ => n - (intOf i).toNat)
  case atStart => exact ⟨0, Nat.zero_le _, rfl, by simpa using h1, hx1⟩
  case round =>
    obtain ⟨k, hk, rfl, ho, hx⟩ := hrel
    by_cases hlt : k < n
    · have E8 : Hid (Value.int .u8 (n : Int) = bU (UInt8.ofNat n)) := Lib.hid (by simp [bU]; omega)
      go_wp2_with (first
        | ((with_reducible refine g_at (d := 21) ?_); refine wpl_buildSlice (vs := [.int .u8 n]) Try.underlying22 hi5 hz5 hs5 rfl (xs := [(.tmp 20)]) rfl rfl rfl (by intro u hu; simp at hu; subst hu; rfl) (by omega) ?_; intro v21 w21 h21 hx21 ha21)
        | ((with_reducible refine g_at (d := 22) ?_); refine wpl_append (v := u3) rfl rfl Try.underlying22 hi5 hz5 hs5 hb5 rfl (ho.ext hx21) h21.sl (by rw [E8.out]; exact bU_one [_]) (by first | omega | (simp <;> omega)) (by omega) (Nat.le_trans hx.size hx21.size) ?_; intro v22 w22 h22 hg22 ha22 hx22))
      go_roundw
      case rel => exact ⟨k + 1, by omega, by go_num, by rw [E8.out] at h22; simpa [List.replicate_succ'] using h22, (hx.tr hx21).trans hx22⟩
      case measure => simp [intOf]; omega
    · go_wp2
      go_ret
      obtain rfl : k = n := by omega
      exact ⟨_, rfl, hx, by unfold fillL; rw [HN.out]; exact ho⟩

/-- what Empty tells, by whichever text -/
def EmptyIs (l : List UInt8) (v1 : Value) (w' : World) (ok : Bool) : Prop :=
  (ok = true ∧ ∃ t, fillL t = l ∧ Sl w' w'.heap.size v1 (t.map bU)) ∨ (ok = false ∧ (∀ t, fillL t ≠ l) ∧ v1 = .slice none 0 0)

def REmpty (w : World) (l : List UInt8) : Value → World → Prop := fun v' w' => Ext w w' ∧ ∃ v1 ok, v' = .tuple #[v1, .bool ok] ∧ EmptyIs l v1 w' ok

set_option maxHeartbeats 400000 in
theorem rempty_c (w : World) (B : Nat) (v : Value) (l : List UInt8) (hv : Sl w B v (l.map bU)) (hl : l.length ≤ 1000000000) :
    Calls Try.prog 7 #[v] w (Ret (REmpty w l)) := by
  obtain ⟨i5, hi5, hz5, hs5, hb5⟩ := info_parts info5
  go_enter Try.func7, Try.ntmps7
  go_wp2_with fail
  go_loopw [4] (fun i wr => ∃ k : Nat, 1 ≤ k ∧ k ≤ 17 ∧ i = .int .i64 k ∧ Hid (∀ j, 1 ≤ j → j < k → j ≤ l.length → fillL (l.take (l.length - j)) ≠ l) ∧ Ext w wr) (fun i _ => 20 - (intOf i).toNat)
  case atStart => exact ⟨1, by omega, by omega, rfl, Lib.hid (by intro j; omega), Below.refl _ _⟩
  case round =>
    obtain ⟨k, hk1, hk, rfl, hno, hx⟩ := hrel
    have hvr := hv.ext hx
    by_cases hlt : k ≤ 16 ∧ k ≤ l.length
    · obtain ⟨h16, hkl⟩ := hlt
      go_wp2_with (first
        | ((with_reducible refine g_at (d := 10) ?_); refine wpl_len rfl Try.underlying22 hvr ?_))
      refine wp_region_rel 11 34 Ext (by kernel_rfl) (by kernel_rfl) (by kernel_rfl) rfl rfl (fun _ => Below.refl _ _) (fun _ _ _ => Ext.tr) ?_
      refine r_move _ rfl (stays_eq _) ?_
      refine r_move _ rfl (stays_eq _) ?_
      refine r_len Try.underlying22 (by rintro _ w hX rfl; exact ⟨_, Sl.extd hvr hX⟩) ?_
      refine r_move _ rfl (stays_eq _) ?_
      refine r_bin rfl rfl (by intro w; (try go_simp); (try go_ints); (first | done | rfl)) ?_
      refine r_slice_to Try.underlying22 hi5 (by rintro _ w hX rfl; exact Sl.extd hvr hX) rfl (show _ = ((l.length - k : Nat) : Int) by first | omega | (simp <;> omega)) (by first | omega | (simp <;> omega)) ?_
      refine r_call1 (SlE ((fillL (l.take (l.length - k))).map bU)) (by first | exact stays_eq _ | exact stays_sl _ _ | exact stays_own _ _ _ | exact stays_cell _ | exact stays_sle _) Try.func9 (by kernel_rfl) (by kernel_rfl) (fun v w hX h => ret_sle (rfill_c w B v (l.take (l.length - k)) (by rw [List.map_take]; exact h) (by simp; omega))) ?_
      refine r_str Try.underlying22 Try.underlying5 Try.underlying9 (fun _ _ _ h => h) ?_
      refine r_move _ rfl (stays_eq _) ?_
      refine r_str Try.underlying22 Try.underlying5 Try.underlying9 (by rintro _ w hX rfl; exact ⟨_, Sl.extd hvr hX⟩) ?_
      refine r_bin rfl rfl (by intro w; exact run_streq _ _ _ _ _) ?_
      intro wR4 hxR4
      refine Fin_eq ?_
      refine Fin_eq ?_
      refine Fin_eq ?_
      refine Fin_eq ?_
      refine Fin_eq ?_
      intro v20 h20
      intro v21 h21
      refine Fin_eq ?_
      refine Fin_eq ?_
      refine Fin_eq ?_
      refine Fin_eq ?_
      show wpList _ _ _ _ _ _
      simp only [Act.put, List.setIfInBounds_toArray, List.set_cons_succ, List.set_cons_zero, Array.getD_eq_getD_getElem?, List.getElem?_toArray, List.getElem?_cons_succ, List.getElem?_cons_zero, Option.getD_some]
      refine wpList_nil ?_
      by_cases hf : fillL (l.take (l.length - k)) = l
      · have hF := Lib.hid hf
        clear hno
        have hvR := hvr.extd hxR4
        have hd : decide (fillL (l.take (l.length - k)) = l) = true := by simpa using hf
        have hBR : w.heap.size ≤ wR4.heap.size := Nat.le_trans hx.size hxR4.size
        clear hf
        go_wp2_with (first
          | ((with_reducible refine g_at (d := 26) ?_); refine wpl_buildSlice (vs := []) Try.underlying22 hi5 hz5 hs5 rfl (xs := []) rfl rfl rfl (by simp) (by omega) ?_; intro v26 w26 h26 hx26 ha26)
          | ((with_reducible refine g_at (d := 29) ?_); refine wpl_len rfl Try.underlying22 (hvR.ext hx26) ?_)
          | ((with_reducible refine g_at (d := 32) ?_); refine wpl_slice_to rfl rfl Try.underlying22 hi5 (hvR.ext hx26) (show _ = ((l.length - k : Nat) : Int) by first | omega | (simp <;> omega)) (by first | omega | (simp <;> omega)) ?_; intro v32 h32)
          | ((with_reducible refine g_at (d := 33) ?_); refine wpl_append (v := v26) rfl rfl Try.underlying22 hi5 hz5 hs5 hb5 rfl h26 h32 (by rw [← List.map_take]; exact bU_one _) (by first | omega | (simp <;> omega)) (by omega) hx26.size ?_; intro v33 w33 h33 hg33 ha33 hx33))
        go_ret2
        refine ⟨_, rfl, ((hx.tr hxR4.undrew).tr hx26).trans (hx33.mono (Nat.le_trans hBR (Nat.le_refl _))), _, true, rfl, .inl ⟨rfl, l.take (l.length - k), hF.out, ?_⟩⟩
        rw [List.map_take]
        simpa using h33.sl
      · have hd : decide (fillL (l.take (l.length - k)) = l) = false := by simpa using hf
        have hno' : Hid (∀ j, 1 ≤ j → j < k + 1 → j ≤ l.length → fillL (l.take (l.length - j)) ≠ l) := Lib.hid (by
          intro j h1 h2 h3
          by_cases e : j = k
          · rw [e]; exact hf
          · exact hno.out j h1 (by omega) h3)
        clear hno
        go_wp2
        go_roundw
        case rel => exact ⟨k + 1, by omega, by omega, by go_num, hno', hx.tr hxR4.undrew⟩
        case measure => simp [intOf]; omega
    · have hnone : ∀ t, fillL t ≠ l := by
        intro t ht
        have h1 := size_fillL t
        rw [ht] at h1
        refine hno.out (16 - t.length % 16) (by omega) (by omega) (by omega) ?_
        have : l.length - (16 - t.length % 16) = t.length := by omega
        rw [this]
        rw [← ht]
        simp [fillL]
      clear hno
      by_cases h16 : k ≤ 16
      · have hkl : ¬ k ≤ l.length := fun h => hlt ⟨h16, h⟩
        clear hlt
        go_wp2_with (first
          | ((with_reducible refine g_at (d := 10) ?_); refine wpl_len rfl Try.underlying22 hvr ?_))
        go_ret2
        exact ⟨_, rfl, hx, _, false, rfl, .inr ⟨rfl, hnone, rfl⟩⟩
      · clear hlt
        go_wp2_with (first
          | ((with_reducible refine g_at (d := 10) ?_); refine wpl_len rfl Try.underlying22 hvr ?_))
        go_ret2
        exact ⟨_, rfl, hx, _, false, rfl, .inr ⟨rfl, hnone, rfl⟩⟩

def ErrIs (c : TypeId) (n : Int) : Value := .iface c (.int .i64 n)

def PEmpty (w : World) (l : List UInt8) : Value → World → Prop := fun v' w' => Ext w w' ∧ ∃ v1 e1 ok, v' = .tuple #[v1, e1] ∧ EmptyIs l v1 w' ok ∧ (ok = true → e1 = .nilIface) ∧ (ok = false → e1 = .iface 32 (.int .i64 7))

theorem EmptyIs.no {l : List UInt8} {v : Value} {w : World} {ok : Bool} (h : EmptyIs l v w ok) (hn : ∀ t, fillL t ≠ l) : ok = false := by
  rcases h with ⟨_, t, ht, _⟩ | ⟨h, _⟩
  · exact absurd ht (hn t)
  · exact h
theorem no_fill_mod {l : List UInt8} (h : l.length % 16 ≠ 0 ∨ l.length = 0) : ∀ t, fillL t ≠ l := by
  intro t ht
  have := size_fillL16 t
  rw [ht] at this
  omega

theorem PEmpty.no {w w' : World} {l : List UInt8} (hx : Ext w w') (h : ∀ t, fillL t ≠ l) : PEmpty w l (.tuple #[.slice none 0 0, .iface 32 (.int .i64 7)]) w' :=
  ⟨hx, _, _, false, rfl, .inr ⟨rfl, h, rfl⟩, by simp, fun _ => rfl⟩

/-- the last byte tells -/
theorem fill_last {l t : List UInt8} (h : fillL t = l) : 1 ≤ l.length ∧ ∃ n : Nat, 1 ≤ n ∧ n ≤ 16 ∧ n ≤ l.length ∧ (∀ j, l.length - n ≤ j → j < l.length → l[j]? = some (UInt8.ofNat n)) ∧ t = l.take (l.length - n) := by
  subst h
  have hs := size_fillL t
  refine ⟨by omega, 16 - t.length % 16, by omega, by omega, by omega, fun j h1 h2 => ?_, ?_⟩
  · rw [hs] at h1 h2
    unfold fillL
    rw [List.getElem?_append_right (by omega), List.getElem?_replicate, if_pos (by omega)]
  · rw [hs]
    have : t.length + (16 - t.length % 16) - (16 - t.length % 16) = t.length := by omega
    rw [this]
    simp [fillL]
theorem fill_of_last {l : List UInt8} {n : Nat} (h16 : l.length % 16 = 0) (h1 : 1 ≤ n) (h2 : n ≤ 16) (h3 : n ≤ l.length) (h : ∀ j, l.length - n ≤ j → j < l.length → l[j]? = some (UInt8.ofNat n)) : fillL (l.take (l.length - n)) = l := by
  have hl : (l.take (l.length - n)).length = l.length - n := by simp
  unfold fillL
  rw [hl]
  have : 16 - (l.length - n) % 16 = n := by omega
  rw [this]
  apply List.ext_getElem?
  intro j
  by_cases hj : j < l.length - n
  · rw [List.getElem?_append_left (by omega), List.getElem?_take, if_pos hj]
  · rw [List.getElem?_append_right (by omega), hl, List.getElem?_replicate]
    by_cases hj2 : j < l.length
    · rw [if_pos (by omega), h j (by omega) hj2]
    · rw [if_neg (by omega), List.getElem?_eq_none (by omega)]

set_option maxHeartbeats 400000 in
theorem empty_c (w : World) (B : Nat) (v : Value) (l : List UInt8) (hv : Sl w B v (l.map bU)) (hl : l.length ≤ 1000000000) :
    Calls Try.prog 6 #[v] w (Ret (PEmpty w l)) := by
  obtain ⟨i5, hi5, hz5, hs5, hb5⟩ := info_parts info5
  by_cases h0 : l.length = 0
  · have hno := Lib.hid (no_fill_mod (.inr h0))
    go_enter Try.func6, Try.ntmps6
    go_wp2_with (first
      | ((with_reducible refine g_at (d := 9) ?_); refine wpl_len rfl Try.underlying22 hv ?_))
    go_ret2
    exact ⟨_, rfl, PEmpty.no (Below.refl _ _) hno.out⟩
  have hpos : 0 < l.length := by omega
  have hne : ((l.length : Int) == 0) = false := by simp; intro h; subst h; simp at hpos
  clear h0
  by_cases h16 : l.length % 16 = 0
  case neg =>
    have hno := Lib.hid (no_fill_mod (.inl h16))
    have hn16 : ((l.length : Int) % 16 != 0) = true := by simp; omega
    clear h16
    go_enter Try.func6, Try.ntmps6
    go_wp2_with (first
      | ((with_reducible refine g_at (d := 9) ?_); refine wpl_len rfl Try.underlying22 hv ?_)
      | ((with_reducible refine g_at (d := 13) ?_); refine wpl_len rfl Try.underlying22 hv ?_))
    go_ret2
    exact ⟨_, rfl, PEmpty.no (Below.refl _ _) hno.out⟩
  case pos =>
    have hn16 : ((l.length : Int) % 16 != 0) = false := by simp; omega
    have H16 := Lib.hid h16
    clear h16
    obtain ⟨c, hc⟩ : ∃ c, l[l.length - 1]? = some c := ⟨_, List.getElem?_eq_getElem (show l.length - 1 < l.length by omega)⟩
    have HU := Lib.hid (at_bU hc)
    have HC := Lib.hid hc
    clear hc
    have hcb : (c.toNat : Int) ≤ 255 := by have := c.toNat_lt; omega
    by_cases hc1 : c.toNat < 1
    · have hno : Hid (∀ t, fillL t ≠ l) := Lib.hid (fun t ht => by
        obtain ⟨_, n, h1, h2, h3, h4, _⟩ := fill_last ht
        have := h4 (l.length - 1) (by omega) (by omega)
        rw [HC.out] at this
        injection this with this
        rw [this] at hc1
        simp at hc1; omega)
      go_enter Try.func6, Try.ntmps6
      go_wp2_with (first
        | ((with_reducible refine g_at (d := 9) ?_); refine wpl_len rfl Try.underlying22 hv ?_)
        | ((with_reducible refine g_at (d := 13) ?_); refine wpl_len rfl Try.underlying22 hv ?_)
        | ((with_reducible refine g_at (d := 20) ?_); refine wpl_len rfl Try.underlying22 hv ?_)
        | ((with_reducible refine g_at (d := 22) ?_); refine wpl_index rfl rfl Try.underlying22 hi5 hs5 hv (by omega) HU.out ?_; intro ad22 hb22 hc22))
      go_ret2
      exact ⟨_, rfl, PEmpty.no (Below.refl _ _) hno.out⟩
    by_cases hc2 : 16 < c.toNat
    · have hno : Hid (∀ t, fillL t ≠ l) := Lib.hid (fun t ht => by
        obtain ⟨_, n, h1, h2, h3, h4, _⟩ := fill_last ht
        have := h4 (l.length - 1) (by omega) (by omega)
        rw [HC.out] at this
        injection this with this
        rw [this] at hc2
        simp at hc2; omega)
      go_enter Try.func6, Try.ntmps6
      go_wp2_with (first
        | ((with_reducible refine g_at (d := 9) ?_); refine wpl_len rfl Try.underlying22 hv ?_)
        | ((with_reducible refine g_at (d := 13) ?_); refine wpl_len rfl Try.underlying22 hv ?_)
        | ((with_reducible refine g_at (d := 20) ?_); refine wpl_len rfl Try.underlying22 hv ?_)
        | ((with_reducible refine g_at (d := 22) ?_); refine wpl_index rfl rfl Try.underlying22 hi5 hs5 hv (by omega) HU.out ?_; intro ad22 hb22 hc22))
      go_ret2
      exact ⟨_, rfl, PEmpty.no (Below.refl _ _) hno.out⟩
    obtain ⟨n, hn⟩ : ∃ n, n = c.toNat := ⟨_, rfl⟩
    have hcn : c = UInt8.ofNat n := by rw [hn]; simp
    have HCN := Lib.hid hcn
    rw [← hn] at hc1 hc2 hcb HU
    have HN := Lib.hid hn
    clear hn hcn
    have hn16 := hc2
    have hn1 : 1 ≤ n := by omega
    have hn2 : n ≤ 16 := by omega
    have hnl : n ≤ l.length := by have := H16.out; omega
    clear hc1 hc2
    go_enter Try.func6, Try.ntmps6
    go_wp2_with (first
      | ((with_reducible refine g_at (d := 9) ?_); refine wpl_len rfl Try.underlying22 hv ?_)
      | ((with_reducible refine g_at (d := 13) ?_); refine wpl_len rfl Try.underlying22 hv ?_)
      | ((with_reducible refine g_at (d := 20) ?_); refine wpl_len rfl Try.underlying22 hv ?_)
      | ((with_reducible refine g_at (d := 22) ?_); refine wpl_index rfl rfl Try.underlying22 hi5 hs5 hv (by omega) HU.out ?_; intro ad22 hb22 hc22)
      | ((with_reducible refine g_at (d := 34) ?_); refine wpl_len rfl Try.underlying22 hv ?_)
      | ((with_reducible refine g_at (d := 37) ?_); refine wpl_slice_to rfl rfl Try.underlying22 hi5 hv (show _ = ((l.length - n : Nat) : Int) by first | omega | (simp <;> omega)) (by first | omega | (simp <;> omega)) ?_; intro v37 h37)
      | ((with_reducible refine g_at (d := 40) ?_); refine wpl_len rfl Try.underlying22 h37 ?_)
      | ((with_reducible refine g_at (d := 41) ?_); refine wpl_slice_from rfl rfl Try.underlying22 hi5 hs5 hv (show _ = ((l.length - n : Nat) : Int) by first | omega | (simp <;> omega)) (by first | omega | (simp <;> omega)) ?_; intro v41 h41)
      | ((with_reducible refine g_at (d := 42) ?_); refine wpl_len rfl Try.underlying22 h41 ?_))
    have en : l.length - (l.length - n) = n := by omega
    simp only [en]
    clear en
    go_loop [43] (fun i => ∃ k : Nat, k ≤ n ∧ i = .int .i64 k ∧ Hid (∀ j, l.length - n ≤ j → j < l.length - n + k → l[j]? = some (UInt8.ofNat n))) (fun i => n - (intOf i).toNat)
    case atStart => exact ⟨0, Nat.zero_le _, rfl, Lib.hid (by intro j; omega)⟩
    case round =>
      obtain ⟨k, hk, rfl, hall⟩ := hrel
      by_cases hlt : k < n
      · obtain ⟨x, hx⟩ : ∃ x, l[l.length - n + k]? = some x := ⟨_, List.getElem?_eq_getElem (show l.length - n + k < l.length by omega)⟩
        have HX : Hid ((List.drop (l.length - n) (l.map bU))[k]? = some (.int .u8 (x.toNat : Int))) := Lib.hid (by rw [List.getElem?_drop]; exact at_bU hx)
        have HL := Lib.hid hx
        have hxb : (x.toNat : Int) ≤ 255 := by have := x.toNat_lt; omega
        clear hx
        by_cases hxn : x.toNat = n
        · have hall' : Hid (∀ j, l.length - n ≤ j → j < l.length - n + (k + 1) → l[j]? = some (UInt8.ofNat n)) := Lib.hid (by
            intro j h1 h2
            by_cases e : j = l.length - n + k
            · rw [e, HL.out, ← hxn]; simp
            · exact hall.out j h1 (by omega))
          have hd : ((x.toNat : Int) != (n : Int)) = false := by simp [hxn]
          clear hall hxn
          go_wp2_with (first
            | ((with_reducible refine g_at (d := 45) ?_); refine wpl_index rfl rfl Try.underlying22 hi5 hs5 h41 rfl HX.out ?_; intro ad45 hb45 hc45))
          go_round
          case rel => exact ⟨k + 1, by omega, by go_num, hall'⟩
          case measure => simp [intOf]; omega
        · have hno : Hid (∀ t, fillL t ≠ l) := Lib.hid (fun t ht => by
            obtain ⟨_, m, h1, h2, h3, h4, _⟩ := fill_last ht
            have e1 := h4 (l.length - 1) (by omega) (by omega)
            rw [HC.out] at e1
            injection e1 with e1
            have hm : m = n := by
              rw [HN.out, e1]; simp; omega
            subst hm
            have e2 := h4 (l.length - m + k) (by omega) (by omega)
            rw [HL.out] at e2
            injection e2 with e2
            apply hxn
            rw [e2]; simp; omega)
          have hd : ((x.toNat : Int) != (n : Int)) = true := by simp; omega
          clear hall
          go_wp2_with (first
            | ((with_reducible refine g_at (d := 45) ?_); refine wpl_index rfl rfl Try.underlying22 hi5 hs5 h41 rfl HX.out ?_; intro ad45 hb45 hc45))
          go_ret2
          exact ⟨_, rfl, PEmpty.no (Below.refl _ _) hno.out⟩
      · obtain rfl : k = n := by omega
        have hfl := Lib.hid (fill_of_last H16.out hn1 hn2 hnl (fun j h1 h2 => hall.out j h1 (by omega)))
        clear hall
        go_wp2_with (first
          | ((with_reducible refine g_at (d := 54) ?_); refine wpl_call Try.func10 (by kernel_rfl) (by kernel_rfl) rfl (clone_c _ _ _ (l.take (l.length - k)) (by rw [List.map_take]; exact h37) (by simp; omega)) ?_; rintro v54 w54 ⟨hx54, h54⟩))
        go_ret2
        exact ⟨_, rfl, hx54, _, _, true, rfl, .inl ⟨rfl, _, hfl.out, h54.sl⟩, fun _ => rfl, by simp⟩

theorem codeInfo : (Try.prog.info? 32).map (fun i => i.comparable) = some true := by kernel_rfl
theorem errEq (w : World) (a b : Int) : (binOp .eql 26 (.iface 32 (.int .i64 a)) (.iface 32 (.int .i64 b))).run Try.prog w = .ok (.bool (a == b)) w := by
  obtain ⟨i, hi, hc⟩ := Option.map_eq_some_iff.1 codeInfo
  exact run_eql_iface_int a b Try.underlying26 Try.underlying32 hi hc

set_option maxHeartbeats 1000000 in
theorem up_c (w : World) :
    Calls Try.prog 4 #[] w (Ret fun v' w' => Ext w w' ∧ v' = .bool true) := by
  obtain ⟨i5, hi5, hz5, hs5, hb5⟩ := info_parts info5
  have hqe := errEq
  go_enter Try.func4, Try.ntmps4
  go_wp2_with (first
    | ((with_reducible refine g_at (d := 6) ?_); refine wpl_call Try.func8 (by kernel_rfl) (by kernel_rfl) rfl (fill_c _ 0 _ [] (Sl.nil _ _ (Nat.zero_le _)) (by simp)) ?_; rintro v6 w6 ⟨hx6, h6⟩))
  go_loopw [2, 3] (fun o i wr => ∃ k : Nat, k ≤ 15 ∧ i = .int .i64 k ∧ Own wr w6.heap.size 5 o ((List.replicate k (2 : UInt8)).map bU) ∧ Ext w6 wr) (fun _ i _ => 15 - (intOf i).toNat)
  case atStart => exact ⟨0, by omega, rfl, World.ownsRow_nil _ _ _ _, Below.refl _ _⟩
  case round =>
    obtain ⟨k, hk, rfl, ho, hx⟩ := hrel
    by_cases hlt : k < 15
    · go_wp2_with (first
        | ((with_reducible refine g_at (d := 12) ?_); refine wpl_buildSlice (vs := [.int .u8 2]) Try.underlying22 hi5 hz5 hs5 rfl (xs := [(.const (.int .u8 2))]) rfl rfl rfl (by intro u hu; simp at hu; subst hu; rfl) (by omega) ?_; intro v12 w12 h12 hx12 ha12)
        | ((with_reducible refine g_at (d := 13) ?_); refine wpl_append (v := u2) rfl rfl Try.underlying22 hi5 hz5 hs5 hb5 rfl (ho.ext hx12) h12.sl (bU_one [2]) (by first | omega | (simp <;> omega)) (by omega) (Nat.le_trans hx.size hx12.size) ?_; intro v13 w13 h13 hg13 ha13 hx13))
      go_roundw
      case rel => exact ⟨k + 1, by omega, by go_num, by have h13' : Own w13 w6.heap.size 5 v13 ((List.replicate k (2 : UInt8)).map bU ++ [bU 2]) := h13; simpa [List.replicate_succ'] using h13', (hx.tr hx12).trans hx13⟩
      case measure => simp [intOf]; omega
    · obtain rfl : k = 15 := by omega
      go_wp2_with (first
        | ((with_reducible refine g_at (d := 16) ?_); refine wpl_call Try.func6 (by kernel_rfl) (by kernel_rfl) rfl (empty_c _ _ _ (List.replicate 15 2) ho.sl (by simp)) ?_; rintro v16 w16 ⟨hx16, v1, e1, ok, rfl, he, h1, h2⟩; (obtain rfl := he.no (no_fill_mod (.inl (by simp))); have e2 := h2 rfl; subst e2; clear h1 h2 he; have h6' : Sl w16 _ v6 ((List.replicate 16 (16 : UInt8)).map bU) := (h6.sl.ext hx).ext hx16))
        | ((with_reducible refine g_at (d := 20) ?_); refine wpl_len rfl Try.underlying22 h6' ?_)
        | ((with_reducible refine g_at (d := 24) ?_); refine wpl_index rfl rfl Try.underlying22 hi5 hs5 h6' rfl (show _ = some (.int .u8 16) from rfl) ?_; intro ad24 hb24 hc24)
        | ((with_reducible refine g_at (d := 30) ?_); refine wpl_index rfl rfl Try.underlying22 hi5 hs5 h6' rfl (show _ = some (.int .u8 16) from rfl) ?_; intro ad30 hb30 hc30))
      go_ret
      exact ⟨_, rfl, (hx6.tr hx).tr hx16, rfl⟩

theorem EmptyIs.mono {l : List UInt8} {v : Value} {w w' : World} {ok : Bool} (h : EmptyIs l v w ok) (hx : Ext w w') : EmptyIs l v w' ok := by
  rcases h with ⟨h1, t, ht, hs⟩ | h
  · exact .inl ⟨h1, t, ht, (hs.ext hx).more hx.size (Nat.le_refl _)⟩
  · exact .inr h
theorem fill_inj {s t : List UInt8} (h : fillL s = fillL t) : s = t := by
  obtain ⟨_, n, h1, h2, h3, h4, h5⟩ := fill_last (t := s) (l := fillL s) rfl
  obtain ⟨_, m, g1, g2, g3, g4, g5⟩ := fill_last (t := t) (l := fillL s) h.symm
  have e1 := h4 ((fillL s).length - 1) (by omega) (by omega)
  have e2 := g4 ((fillL s).length - 1) (by omega) (by omega)
  rw [e1] at e2
  injection e2 with e2
  have : n = m := by
    have := congrArg UInt8.toNat e2
    simp at this; omega
  subst this
  rw [h5, g5]
/-- both texts tell the same -/
theorem EmptyIs.both {l : List UInt8} {v v' : Value} {w : World} {ok ok' : Bool} (h : EmptyIs l v w ok) (h' : EmptyIs l v' w ok') :
    (ok = true ∧ ok' = true ∧ ∃ t : List UInt8, Sl w w.heap.size v (t.map bU) ∧ Sl w w.heap.size v' (t.map bU)) ∨ (ok = false ∧ ok' = false ∧ v = .slice none 0 0) := by
  rcases h with ⟨rfl, t, ht, hs⟩ | ⟨rfl, hn, rfl⟩ <;> rcases h' with ⟨rfl, t', ht', hs'⟩ | ⟨rfl, hn', _⟩
  · have := fill_inj (ht.trans ht'.symm)
    subst this
    exact .inl ⟨rfl, rfl, t, hs, hs'⟩
  · exact absurd ht (hn' t)
  · exact absurd ht' (hn t')
  · exact .inr ⟨rfl, rfl, rfl⟩

set_option maxHeartbeats 1000000 in
theorem law_c (w : World) (B : Nat) (v : Value) (l : List UInt8) (hv : Sl w B v (l.map bU)) :
    Calls Try.prog 3 #[v] w (Ret fun v' w' => Ext w w' ∧ v' = .bool true) := by
  have hqe := errEq
  have hcut : (l.take 1000).length ≤ 1000 := List.length_take_le _ _
  go_enter Try.func3, Try.ntmps3
  go_wp2_with (first
    | ((with_reducible refine g_at (d := 8) ?_); refine wpl_call Try.func4 (by kernel_rfl) (by kernel_rfl) rfl (up_c _) ?_; rintro v8 w8 ⟨hx8, rfl⟩)
    | ((with_reducible refine g_at (d := 10) ?_); refine wpl_call Try.func5 (by kernel_rfl) (by kernel_rfl) rfl (cut_c _ B _ (l.map bU) 1000 (hv.ext hx8)) ?_; rintro v10 w10 ⟨rfl, h10⟩; (rw [← List.map_take] at h10))
    | ((with_reducible refine g_at (d := 13) ?_); refine wpl_call Try.func6 (by kernel_rfl) (by kernel_rfl) rfl (empty_c _ _ _ (l.take 1000) h10 (by omega)) ?_; rintro v13 w13 ⟨hx13, v1, e1, ok, rfl, he, h1, h2⟩)
    | ((with_reducible refine g_at (d := 18) ?_); refine wpl_call Try.func7 (by kernel_rfl) (by kernel_rfl) rfl (rempty_c _ _ _ (l.take 1000) (h10.ext hx13) (by omega)) ?_; rintro v18 w18 ⟨hx18, v2, ok2, rfl, he2⟩))
  have hb := (he.mono hx18).both he2
  have h10' := (h10.ext hx13).ext hx18
  have hxw := (hx8.tr hx13).tr hx18
  clear he he2 hx8 hx13 hx18 h10 hcut hv
  rcases hb with ⟨rfl, rfl, t, ht1, ht2⟩ | ⟨rfl, rfl, rfl⟩
  · have e1' := h1 rfl
    subst e1'
    clear h1 h2
    have hlen : (l.take 1000).length ≤ 1000 := List.length_take_le _ _
    refine wp_region_rel 7 53 Ext (by kernel_rfl) (by kernel_rfl) (by kernel_rfl) rfl rfl (fun _ => Below.refl _ _) (fun _ _ _ => Ext.tr) ?_
    refine r_move _ rfl (stays_eq _) ?_
    refine r_call1 (SlE ((fillL (l.take 1000)).map bU)) (by first | exact stays_eq _ | exact stays_sl _ _ | exact stays_own _ _ _ | exact stays_cell _ | exact stays_sle _) Try.func8 (by kernel_rfl) (by kernel_rfl) (fun v w hX h => by obtain rfl : v = v10 := h; exact ret_sle (fill_c w B _ (l.take 1000) (h10'.extd hX) (by omega))) ?_
    refine r_str Try.underlying22 Try.underlying5 Try.underlying9 (fun _ _ _ h => h) ?_
    refine r_move _ rfl (stays_eq _) ?_
    refine r_call1 (SlE ((fillL (l.take 1000)).map bU)) (by first | exact stays_eq _ | exact stays_sl _ _ | exact stays_own _ _ _ | exact stays_cell _ | exact stays_sle _) Try.func9 (by kernel_rfl) (by kernel_rfl) (fun v w hX h => by obtain rfl : v = v10 := h; exact ret_sle (rfill_c w B _ (l.take 1000) (h10'.extd hX) (by omega))) ?_
    refine r_str Try.underlying22 Try.underlying5 Try.underlying9 (fun _ _ _ h => h) ?_
    refine r_bin rfl rfl (by intro w; exact run_strne _ _ _ _ _) ?_
    intro wR5 hxR5
    refine Fin_eq ?_
    intro v22 h22
    refine Fin_eq ?_
    refine Fin_eq ?_
    intro v25 h25
    refine Fin_eq ?_
    refine Fin_eq ?_
    show wpList _ _ _ _ _ _
    simp only [Act.put, List.setIfInBounds_toArray, List.set_cons_succ, List.set_cons_zero, Array.getD_eq_getD_getElem?, List.getElem?_toArray, List.getElem?_cons_succ, List.getElem?_cons_zero, Option.getD_some]
    refine wpList_nil ?_
    have ht1' := ht1.extd hxR5
    have ht2' := ht2.extd hxR5
    go_wp2_with (first
      | ((with_reducible refine g_at (d := 48) ?_); refine wpl_string rfl Try.underlying22 Try.underlying5 Try.underlying9 ht1' ?_)
      | ((with_reducible refine g_at (d := 50) ?_); refine wpl_string rfl Try.underlying22 Try.underlying5 Try.underlying9 ht2' ?_))
    go_ret
    exact ⟨_, rfl, hxw.tr hxR5.undrew, by simp⟩
  · have e1' := h2 rfl
    subst e1'
    clear h1 h2
    have hlen : (l.take 1000).length ≤ 1000 := List.length_take_le _ _
    refine wp_region_rel 7 53 Ext (by kernel_rfl) (by kernel_rfl) (by kernel_rfl) rfl rfl (fun _ => Below.refl _ _) (fun _ _ _ => Ext.tr) ?_
    refine r_move _ rfl (stays_eq _) ?_
    refine r_call1 (SlE ((fillL (l.take 1000)).map bU)) (by first | exact stays_eq _ | exact stays_sl _ _ | exact stays_own _ _ _ | exact stays_cell _ | exact stays_sle _) Try.func8 (by kernel_rfl) (by kernel_rfl) (fun v w hX h => by obtain rfl : v = v10 := h; exact ret_sle (fill_c w B _ (l.take 1000) (h10'.extd hX) (by omega))) ?_
    refine r_str Try.underlying22 Try.underlying5 Try.underlying9 (fun _ _ _ h => h) ?_
    refine r_move _ rfl (stays_eq _) ?_
    refine r_call1 (SlE ((fillL (l.take 1000)).map bU)) (by first | exact stays_eq _ | exact stays_sl _ _ | exact stays_own _ _ _ | exact stays_cell _ | exact stays_sle _) Try.func9 (by kernel_rfl) (by kernel_rfl) (fun v w hX h => by obtain rfl : v = v10 := h; exact ret_sle (rfill_c w B _ (l.take 1000) (h10'.extd hX) (by omega))) ?_
    refine r_str Try.underlying22 Try.underlying5 Try.underlying9 (fun _ _ _ h => h) ?_
    refine r_bin rfl rfl (by intro w; exact run_strne _ _ _ _ _) ?_
    intro wR5 hxR5
    refine Fin_eq ?_
    intro v22 h22
    refine Fin_eq ?_
    refine Fin_eq ?_
    intro v25 h25
    refine Fin_eq ?_
    refine Fin_eq ?_
    show wpList _ _ _ _ _ _
    simp only [Act.put, List.setIfInBounds_toArray, List.set_cons_succ, List.set_cons_zero, Array.getD_eq_getD_getElem?, List.getElem?_toArray, List.getElem?_cons_succ, List.getElem?_cons_zero, Option.getD_some]
    refine wpList_nil ?_
    go_wp2
    go_ret
    exact ⟨_, rfl, hxw.tr hxR5.undrew, by simp⟩
end Go.Proofs.Ytmdijgmnopidpaa
