import Derived.Test.YtmdijgmnopidpaaDoorShaU
set_option linter.unusedVariables false
set_option linter.unusedSimpArgs false
namespace Go.Proofs.YtmdijgmnopidpaaDoor
open Go.RowKit Go.Ch

theorem codeInfo : (Tryd.prog.info? 41).map (fun i => i.comparable) = some true := by kernel_rfl
theorem errEq (w : World) (a b : Int) : (binOp .eql 38 (.iface 41 (.int .i64 a)) (.iface 41 (.int .i64 b))).run Tryd.prog w = .ok (.bool (a == b)) w := by
  obtain ⟨i, hi, hc⟩ := Option.map_eq_some_iff.1 codeInfo
  exact run_eql_iface_int a b Tryd.underlying38 Tryd.underlying41 hi hc

theorem list_inj {v u : Words} (h : v.list = u.list) : v = u := by
  cases v; cases u
  simp only [Words.list, List.cons.injEq, and_true] at h
  simp only [Words.mk.injEq]
  exact h

set_option maxRecDepth 100000 in
set_option maxHeartbeats 4000000 in
theorem back_c (w : World) (v u : Words) (n : UInt32) (hG : GK w) :
    Calls Tryd.prog 8 #[wds v, wds u, w32 n] w (Ret fun v' w' => Ext w w' ∧ v' = .bool true) := by
  obtain ⟨i28, hi28, hz28, hs28, hb28⟩ := info_parts infoW8
  have hsz28 := info_size infoW8
  obtain ⟨i24, hi24, hz24, hs24, hb24⟩ := info_parts infoU32
  have hsz24 := info_size infoU32
  obtain ⟨b, hb1, hb2⟩ : ∃ b, decide ((roundOf v n).list = (roundOf u n).list) = b ∧ decide (v.list = u.list) = b := by
    refine ⟨decide (v.list = u.list), ?_, rfl⟩
    by_cases h : v = u
    · subst h; simp
    · have h1 : ¬ v.list = u.list := fun e => h (list_inj e)
      have h2 : ¬ (roundOf v n).list = (roundOf u n).list := fun e => h (round_inj (list_inj e))
      simp [h1, h2]
  have HB1 := Lib.hid hb1
  have HB2 := Lib.hid hb2
  clear hb1 hb2
  unfold wds
  go_enter Tryd.func8, Tryd.ntmps8
  go_wp2_with (first
    | ((with_reducible refine g_at (d := 3) ?_); refine wpl_box (cs := (v.list.map w32).toArray) rfl rfl ?_; intro b3 w3 hB3 hb3 hx3; try (conv in (Act.put _ _ _) => simp only [Act.put, List.setIfInBounds_toArray, List.set_cons_succ, List.set_cons_zero]))
    | ((with_reducible refine g_at (d := 4) ?_); refine wpl_box (cs := (u.list.map w32).toArray) rfl rfl ?_; intro b4 w4 hB4 hb4 hx4; try (conv in (Act.put _ _ _) => simp only [Act.put, List.setIfInBounds_toArray, List.set_cons_succ, List.set_cons_zero]))
    | ((with_reducible refine g_at (d := 10) ?_); refine wpl_call Tryd.func11 (by kernel_rfl) (by kernel_rfl) rfl (up_c _ ((hG.ext hx3).ext hx4)) ?_; rintro v10 w10 ⟨hx10, rfl⟩; try (conv in (Act.put _ _ _) => simp only [Act.put, List.setIfInBounds_toArray, List.set_cons_succ, List.set_cons_zero]))
    | ((with_reducible refine g_at (d := 11) ?_); refine wpl_loadrow (cs := (v.list.map w32).toArray) (t' := 28) rfl ((hB3.ext hx4).ext hx10) Tryd.underlying28 rfl (by simp [hsz28, len8]) ?_; try (conv in (Act.put _ _ _) => simp only [Act.put, List.setIfInBounds_toArray, List.set_cons_succ, List.set_cons_zero]))
    | ((with_reducible refine g_at (d := 13) ?_); refine wpl_call Tryd.func14 (by kernel_rfl) (by kernel_rfl) rfl (round_c _ v n) ?_; rintro v13 w13 ⟨hx13, rfl⟩; unfold wds; try (conv in (Act.put _ _ _) => simp only [Act.put, List.setIfInBounds_toArray, List.set_cons_succ, List.set_cons_zero]))
    | ((with_reducible refine g_at (d := 8) ?_); refine wpl_alloc hi28 hz28 (cs := ((zeros 8).map w32).toArray) rfl ?_; intro b8 w8 hB8 hb8 hx8; try (conv in (Act.put _ _ _) => simp only [Act.put, List.setIfInBounds_toArray, List.set_cons_succ, List.set_cons_zero]))
    | ((with_reducible refine g_storeat (n := 8) ?_); refine wpl_storerow rfl rfl hi28 (by simp [hs28, len8]) (words_one _) hB8 (by simp [zeros, len8]) ?_; intro ws8 hBs8 hgs8 hzs8; try (conv in (Act.put _ _ _) => simp only [Act.put, List.setIfInBounds_toArray, List.set_cons_succ, List.set_cons_zero]))
    | ((with_reducible refine g_at (d := 14) ?_); refine wpl_loadrow (cs := (u.list.map w32).toArray) (t' := 28) rfl ((((hB4.ext hx10).ext hx13).ext hx8).grown hgs8 (by have := ((hB4.ext hx10).ext hx13).lt; simp; omega)) Tryd.underlying28 rfl (by simp [hsz28, len8]) ?_; try (conv in (Act.put _ _ _) => simp only [Act.put, List.setIfInBounds_toArray, List.set_cons_succ, List.set_cons_zero]))
    | ((with_reducible refine g_at (d := 16) ?_); refine wpl_call Tryd.func14 (by kernel_rfl) (by kernel_rfl) rfl (round_c _ u n) ?_; rintro v16 w16 ⟨hx16, rfl⟩; unfold wds; try (conv in (Act.put _ _ _) => simp only [Act.put, List.setIfInBounds_toArray, List.set_cons_succ, List.set_cons_zero]))
    | ((with_reducible refine g_at (d := 9) ?_); refine wpl_alloc hi28 hz28 (cs := ((zeros 8).map w32).toArray) rfl ?_; intro b9 w9 hB9 hb9 hx9; try (conv in (Act.put _ _ _) => simp only [Act.put, List.setIfInBounds_toArray, List.set_cons_succ, List.set_cons_zero]))
    | ((with_reducible refine g_storeat (n := 9) ?_); refine wpl_storerow rfl rfl hi28 (by simp [hs28, len8]) (words_one _) hB9 (by simp [zeros, len8]) ?_; intro ws9 hBs9 hgs9 hzs9; try (conv in (Act.put _ _ _) => simp only [Act.put, List.setIfInBounds_toArray, List.set_cons_succ, List.set_cons_zero])))
  have h3lt := (((hB3.ext hx4).ext hx10).ext hx13).lt
  have h4lt := ((hB4.ext hx10).ext hx13).lt
  have hB3a := ((((hB3.ext hx4).ext hx10).ext hx13).ext hx8).grown hgs8 (by simp; omega)
  have hB4a := (((hB4.ext hx10).ext hx13).ext hx8).grown hgs8 (by simp; omega)
  have e1 : Ext w w8 := (by first | exact Below.refl _ _ | assumption | exact Ext.drew' (by assumption) | exact Ext.undrew (by assumption) | exact Ext.back (by first | assumption | exact Ext.drew' (by assumption) | exact Ext.undrew (by assumption)) (by first | exact Below.refl _ _ | assumption | exact Ext.drew' (by assumption) | exact Ext.undrew (by assumption) | exact Ext.back (by first | assumption | exact Ext.drew' (by assumption) | exact Ext.undrew (by assumption)) (by first | exact Below.refl _ _ | assumption | exact Ext.drew' (by assumption) | exact Ext.undrew (by assumption) | exact Ext.back (by first | assumption | exact Ext.drew' (by assumption) | exact Ext.undrew (by assumption)) (by first | exact Below.refl _ _ | assumption | exact Ext.drew' (by assumption) | exact Ext.undrew (by assumption) | exact Ext.back (by first | assumption | exact Ext.drew' (by assumption) | exact Ext.undrew (by assumption)) (by first | exact Below.refl _ _ | assumption | exact Ext.drew' (by assumption) | exact Ext.undrew (by assumption) | exact Ext.back (by first | assumption | exact Ext.drew' (by assumption) | exact Ext.undrew (by assumption)) (by first | exact Below.refl _ _ | assumption | exact Ext.drew' (by assumption) | exact Ext.undrew (by assumption) | exact Ext.back (by first | assumption | exact Ext.drew' (by assumption) | exact Ext.undrew (by assumption)) (by first | exact Below.refl _ _ | assumption | exact Ext.drew' (by assumption) | exact Ext.undrew (by assumption) | exact Ext.back (by first | assumption | exact Ext.drew' (by assumption) | exact Ext.undrew (by assumption)) (by first | exact Below.refl _ _ | assumption | exact Ext.drew' (by assumption) | exact Ext.undrew (by assumption) | exact Ext.back (by first | assumption | exact Ext.drew' (by assumption) | exact Ext.undrew (by assumption)) (by first | exact Below.refl _ _ | assumption | exact Ext.drew' (by assumption) | exact Ext.undrew (by assumption))))))))))
  have e0 : Ext w w13 := (by first | exact Below.refl _ _ | assumption | exact Ext.drew' (by assumption) | exact Ext.undrew (by assumption) | exact Ext.back (by first | assumption | exact Ext.drew' (by assumption) | exact Ext.undrew (by assumption)) (by first | exact Below.refl _ _ | assumption | exact Ext.drew' (by assumption) | exact Ext.undrew (by assumption) | exact Ext.back (by first | assumption | exact Ext.drew' (by assumption) | exact Ext.undrew (by assumption)) (by first | exact Below.refl _ _ | assumption | exact Ext.drew' (by assumption) | exact Ext.undrew (by assumption) | exact Ext.back (by first | assumption | exact Ext.drew' (by assumption) | exact Ext.undrew (by assumption)) (by first | exact Below.refl _ _ | assumption | exact Ext.drew' (by assumption) | exact Ext.undrew (by assumption) | exact Ext.back (by first | assumption | exact Ext.drew' (by assumption) | exact Ext.undrew (by assumption)) (by first | exact Below.refl _ _ | assumption | exact Ext.drew' (by assumption) | exact Ext.undrew (by assumption) | exact Ext.back (by first | assumption | exact Ext.drew' (by assumption) | exact Ext.undrew (by assumption)) (by first | exact Below.refl _ _ | assumption | exact Ext.drew' (by assumption) | exact Ext.undrew (by assumption) | exact Ext.back (by first | assumption | exact Ext.drew' (by assumption) | exact Ext.undrew (by assumption)) (by first | exact Below.refl _ _ | assumption | exact Ext.drew' (by assumption) | exact Ext.undrew (by assumption) | exact Ext.back (by first | assumption | exact Ext.drew' (by assumption) | exact Ext.undrew (by assumption)) (by first | exact Below.refl _ _ | assumption | exact Ext.drew' (by assumption) | exact Ext.undrew (by assumption) | exact Ext.back (by first | assumption | exact Ext.drew' (by assumption) | exact Ext.undrew (by assumption)) (by first | exact Below.refl _ _ | assumption | exact Ext.drew' (by assumption) | exact Ext.undrew (by assumption))))))))))
  have hxw : Ext w ws8 := e1.trans (grown_below hgs8 (Nat.le_trans e0.size hb8) e1.size)
  clear h3lt h4lt
  have h8lt := (hBs8.ext hx16).lt
  have h3lt := (hB3a.ext hx16).lt
  have h4lt := (hB4a.ext hx16).lt
  have hB8z := ((hBs8.ext hx16).ext hx9).grown hgs9 (by simp; omega)
  have hB3z := ((hB3a.ext hx16).ext hx9).grown hgs9 (by simp; omega)
  have hB4z := ((hB4a.ext hx16).ext hx9).grown hgs9 (by simp; omega)
  have f1 : Ext w w9 := (hxw.tr hx16).tr hx9
  have f0 : Ext w w16 := hxw.tr hx16
  have hxz : Ext w ws9 := f1.trans (grown_below hgs9 (Nat.le_trans f0.size hb9) f1.size)
  clear h3lt h4lt h8lt
  cases b
  all_goals
    refine wp_region_rel 10 27 Ext (by kernel_rfl) (by kernel_rfl) (by kernel_rfl) rfl rfl (fun _ => Below.refl _ _) (fun _ _ _ => Ext.tr) ?_
    refine r_move _ rfl (stays_eq _) ?_
    refine r_move _ rfl (stays_eq _) ?_
    refine r_loadrow Tryd.underlying28 rfl rfl hB8z (by simp [hsz28, len8]) ?_
    refine r_loadrow Tryd.underlying28 rfl rfl hBs9 (by simp [hsz28, len8]) ?_
    refine r_bin rfl rfl (by intro w; exact run_eq_wordsb Tryd.underlying28 Tryd.underlying24 hi24 words_cells guardW8 _ _ _ _ (len8 _) (len8 _) HB1.out w) ?_
    refine r_loadrow Tryd.underlying28 rfl rfl hB3z (by simp [hsz28, len8]) ?_
    refine r_loadrow Tryd.underlying28 rfl rfl hB4z (by simp [hsz28, len8]) ?_
    refine r_bin rfl rfl (by intro w; exact run_eq_wordsb Tryd.underlying28 Tryd.underlying24 hi24 words_cells guardW8 _ _ _ _ (len8 _) (len8 _) HB2.out w) ?_
    refine r_bin rfl rfl (by intro w; (try go_simp); (try go_ints); (first | done | rfl)) ?_
    refine r_pick _ rfl rfl (by first | exact stays_eq _ | exact stays_sl _ _ | exact stays_own _ _ _ | exact stays_cell _ | exact stays_sle _) ?_
    intro wR4 hxR4; have gxR4 := hxR4.undrew
    refine Fin_eq ?_
    refine Fin_eq ?_
    refine Fin_eq ?_
    refine Fin_eq ?_
    refine Fin_eq ?_
    refine Fin_eq ?_
    refine Fin_eq ?_
    refine Fin_eq ?_
    refine Fin_eq ?_
    refine Fin_eq ?_
    show wpList _ _ _ _ _ _
    simp only [Act.put, List.setIfInBounds_toArray, List.set_cons_succ, List.set_cons_zero, Array.getD_eq_getD_getElem?, List.getElem?_toArray, List.getElem?_cons_succ, List.getElem?_cons_zero, Option.getD_some]
    simp only [List.toList_toArray, List.drop_succ_cons, List.drop_zero]
    go_wp2
    go_ret
    exact ⟨_, rfl, hxz.tr gxR4, rfl⟩

set_option maxRecDepth 100000 in
set_option maxHeartbeats 4000000 in
theorem tails_c (w : World) (n : Int) (hn : (Lit.int .i64 n).wf = true) (hG : GK w) :
    Calls Tryd.prog 6 #[.int .i64 n] w (Ret fun v' w' => Ext w w' ∧ v' = .bool true) := by
  have hqe := errEq
  by_cases hb : n < 0 ∨ 281474976710656 < n
  · have hHb := Lib.hid hb
    rcases hb with hb | hb
    · go_enter Tryd.func6, Tryd.ntmps6
      go_wp2_with (first
        | ((with_reducible refine g_at (d := 6) ?_); refine wpl_call Tryd.func11 (by kernel_rfl) (by kernel_rfl) rfl (up_c _ hG) ?_; rintro v6 w6 ⟨hx6, rfl⟩; try (conv in (Act.put _ _ _) => simp only [Act.put, List.setIfInBounds_toArray, List.set_cons_succ, List.set_cons_zero]))
        | ((with_reducible refine g_at (d := 9) ?_); refine wpl_call Tryd.func19 (by kernel_rfl) (by kernel_rfl) rfl (tail_bad _ n hHb.out) ?_; rintro v9 w9 ⟨hx9, rfl⟩; try (conv in (Act.put _ _ _) => simp only [Act.put, List.setIfInBounds_toArray, List.set_cons_succ, List.set_cons_zero]))
        | ((with_reducible refine g_at (d := 26) ?_); refine wpl_len rfl Tryd.underlying36 (Sl.nil _ 0 (Nat.zero_le _)) (by first | rw [List.length_map] | rfl) ?_; try (conv in (Act.put _ _ _) => simp only [Act.put, List.setIfInBounds_toArray, List.set_cons_succ, List.set_cons_zero]))
        | ((with_reducible refine g_at (d := 36) ?_); refine wpl_string rfl Tryd.underlying36 Tryd.underlying5 Tryd.underlying9 (by first | assumption | exact Own.sl (by assumption) | exact Sl.back (by first | assumption | exact Ext.drew' (by assumption) | exact Ext.undrew (by assumption)) (by first | assumption | exact Own.sl (by assumption) | exact Sl.back (by first | assumption | exact Ext.drew' (by assumption) | exact Ext.undrew (by assumption)) (by first | assumption | exact Own.sl (by assumption) | exact Sl.back (by first | assumption | exact Ext.drew' (by assumption) | exact Ext.undrew (by assumption)) (by first | assumption | exact Own.sl (by assumption) | exact Sl.back (by first | assumption | exact Ext.drew' (by assumption) | exact Ext.undrew (by assumption)) (by first | assumption | exact Own.sl (by assumption) | exact Sl.back (by first | assumption | exact Ext.drew' (by assumption) | exact Ext.undrew (by assumption)) (by first | assumption | exact Own.sl (by assumption) | exact Sl.back (by first | assumption | exact Ext.drew' (by assumption) | exact Ext.undrew (by assumption)) (by first | assumption | exact Own.sl (by assumption) | exact Sl.back (by first | assumption | exact Ext.drew' (by assumption) | exact Ext.undrew (by assumption)) (by first | assumption | exact Own.sl (by assumption))))))))) ?_; try (conv in (Act.put _ _ _) => simp only [Act.put, List.setIfInBounds_toArray, List.set_cons_succ, List.set_cons_zero]))
        | ((with_reducible refine g_at (d := 39) ?_); refine wpl_string rfl Tryd.underlying36 Tryd.underlying5 Tryd.underlying9 (by first | assumption | exact Own.sl (by assumption) | exact Sl.back (by first | assumption | exact Ext.drew' (by assumption) | exact Ext.undrew (by assumption)) (by first | assumption | exact Own.sl (by assumption) | exact Sl.back (by first | assumption | exact Ext.drew' (by assumption) | exact Ext.undrew (by assumption)) (by first | assumption | exact Own.sl (by assumption) | exact Sl.back (by first | assumption | exact Ext.drew' (by assumption) | exact Ext.undrew (by assumption)) (by first | assumption | exact Own.sl (by assumption) | exact Sl.back (by first | assumption | exact Ext.drew' (by assumption) | exact Ext.undrew (by assumption)) (by first | assumption | exact Own.sl (by assumption) | exact Sl.back (by first | assumption | exact Ext.drew' (by assumption) | exact Ext.undrew (by assumption)) (by first | assumption | exact Own.sl (by assumption) | exact Sl.back (by first | assumption | exact Ext.drew' (by assumption) | exact Ext.undrew (by assumption)) (by first | assumption | exact Own.sl (by assumption) | exact Sl.back (by first | assumption | exact Ext.drew' (by assumption) | exact Ext.undrew (by assumption)) (by first | assumption | exact Own.sl (by assumption))))))))) ?_; try (conv in (Act.put _ _ _) => simp only [Act.put, List.setIfInBounds_toArray, List.set_cons_succ, List.set_cons_zero])))
      go_ret
      exact ⟨_, rfl, hx6.tr hx9, rfl⟩
    · have hb' : ¬ n < 0 := by omega
      go_enter Tryd.func6, Tryd.ntmps6
      go_wp2_with (first
        | ((with_reducible refine g_at (d := 6) ?_); refine wpl_call Tryd.func11 (by kernel_rfl) (by kernel_rfl) rfl (up_c _ hG) ?_; rintro v6 w6 ⟨hx6, rfl⟩; try (conv in (Act.put _ _ _) => simp only [Act.put, List.setIfInBounds_toArray, List.set_cons_succ, List.set_cons_zero]))
        | ((with_reducible refine g_at (d := 9) ?_); refine wpl_call Tryd.func19 (by kernel_rfl) (by kernel_rfl) rfl (tail_bad _ n hHb.out) ?_; rintro v9 w9 ⟨hx9, rfl⟩; try (conv in (Act.put _ _ _) => simp only [Act.put, List.setIfInBounds_toArray, List.set_cons_succ, List.set_cons_zero]))
        | ((with_reducible refine g_at (d := 26) ?_); refine wpl_len rfl Tryd.underlying36 (Sl.nil _ 0 (Nat.zero_le _)) (by first | rw [List.length_map] | rfl) ?_; try (conv in (Act.put _ _ _) => simp only [Act.put, List.setIfInBounds_toArray, List.set_cons_succ, List.set_cons_zero]))
        | ((with_reducible refine g_at (d := 36) ?_); refine wpl_string rfl Tryd.underlying36 Tryd.underlying5 Tryd.underlying9 (by first | assumption | exact Own.sl (by assumption) | exact Sl.back (by first | assumption | exact Ext.drew' (by assumption) | exact Ext.undrew (by assumption)) (by first | assumption | exact Own.sl (by assumption) | exact Sl.back (by first | assumption | exact Ext.drew' (by assumption) | exact Ext.undrew (by assumption)) (by first | assumption | exact Own.sl (by assumption) | exact Sl.back (by first | assumption | exact Ext.drew' (by assumption) | exact Ext.undrew (by assumption)) (by first | assumption | exact Own.sl (by assumption) | exact Sl.back (by first | assumption | exact Ext.drew' (by assumption) | exact Ext.undrew (by assumption)) (by first | assumption | exact Own.sl (by assumption) | exact Sl.back (by first | assumption | exact Ext.drew' (by assumption) | exact Ext.undrew (by assumption)) (by first | assumption | exact Own.sl (by assumption) | exact Sl.back (by first | assumption | exact Ext.drew' (by assumption) | exact Ext.undrew (by assumption)) (by first | assumption | exact Own.sl (by assumption) | exact Sl.back (by first | assumption | exact Ext.drew' (by assumption) | exact Ext.undrew (by assumption)) (by first | assumption | exact Own.sl (by assumption))))))))) ?_; try (conv in (Act.put _ _ _) => simp only [Act.put, List.setIfInBounds_toArray, List.set_cons_succ, List.set_cons_zero]))
        | ((with_reducible refine g_at (d := 39) ?_); refine wpl_string rfl Tryd.underlying36 Tryd.underlying5 Tryd.underlying9 (by first | assumption | exact Own.sl (by assumption) | exact Sl.back (by first | assumption | exact Ext.drew' (by assumption) | exact Ext.undrew (by assumption)) (by first | assumption | exact Own.sl (by assumption) | exact Sl.back (by first | assumption | exact Ext.drew' (by assumption) | exact Ext.undrew (by assumption)) (by first | assumption | exact Own.sl (by assumption) | exact Sl.back (by first | assumption | exact Ext.drew' (by assumption) | exact Ext.undrew (by assumption)) (by first | assumption | exact Own.sl (by assumption) | exact Sl.back (by first | assumption | exact Ext.drew' (by assumption) | exact Ext.undrew (by assumption)) (by first | assumption | exact Own.sl (by assumption) | exact Sl.back (by first | assumption | exact Ext.drew' (by assumption) | exact Ext.undrew (by assumption)) (by first | assumption | exact Own.sl (by assumption) | exact Sl.back (by first | assumption | exact Ext.drew' (by assumption) | exact Ext.undrew (by assumption)) (by first | assumption | exact Own.sl (by assumption) | exact Sl.back (by first | assumption | exact Ext.drew' (by assumption) | exact Ext.undrew (by assumption)) (by first | assumption | exact Own.sl (by assumption))))))))) ?_; try (conv in (Act.put _ _ _) => simp only [Act.put, List.setIfInBounds_toArray, List.set_cons_succ, List.set_cons_zero])))
      go_ret
      exact ⟨_, rfl, hx6.tr hx9, rfl⟩
  · obtain ⟨k, rfl⟩ : ∃ k : Nat, n = k := ⟨n.toNat, by omega⟩
    have h1 : ¬ (k : Int) < 0 := by omega
    have h2 : ¬ (k : Int) > 281474976710656 := by omega
    have h3 : k ≤ 281474976710656 := by omega
    clear hb hn
    go_enter Tryd.func6, Tryd.ntmps6
    go_wp2_with (first
      | ((with_reducible refine g_at (d := 6) ?_); refine wpl_call Tryd.func11 (by kernel_rfl) (by kernel_rfl) rfl (up_c _ hG) ?_; rintro v6 w6 ⟨hx6, rfl⟩; try (conv in (Act.put _ _ _) => simp only [Act.put, List.setIfInBounds_toArray, List.set_cons_succ, List.set_cons_zero]))
      | ((with_reducible refine g_at (d := 9) ?_); refine wpl_call Tryd.func19 (by kernel_rfl) (by kernel_rfl) rfl (tail_c _ k h3) ?_; rintro v9 w9 ⟨hx9, v1, rfl, h9⟩; try (conv in (Act.put _ _ _) => simp only [Act.put, List.setIfInBounds_toArray, List.set_cons_succ, List.set_cons_zero]))
      | ((with_reducible refine g_at (d := 26) ?_); refine wpl_len rfl Tryd.underlying36 (by first | assumption | exact Own.sl (by assumption) | exact Sl.back (by first | assumption | exact Ext.drew' (by assumption) | exact Ext.undrew (by assumption)) (by first | assumption | exact Own.sl (by assumption) | exact Sl.back (by first | assumption | exact Ext.drew' (by assumption) | exact Ext.undrew (by assumption)) (by first | assumption | exact Own.sl (by assumption) | exact Sl.back (by first | assumption | exact Ext.drew' (by assumption) | exact Ext.undrew (by assumption)) (by first | assumption | exact Own.sl (by assumption) | exact Sl.back (by first | assumption | exact Ext.drew' (by assumption) | exact Ext.undrew (by assumption)) (by first | assumption | exact Own.sl (by assumption) | exact Sl.back (by first | assumption | exact Ext.drew' (by assumption) | exact Ext.undrew (by assumption)) (by first | assumption | exact Own.sl (by assumption) | exact Sl.back (by first | assumption | exact Ext.drew' (by assumption) | exact Ext.undrew (by assumption)) (by first | assumption | exact Own.sl (by assumption) | exact Sl.back (by first | assumption | exact Ext.drew' (by assumption) | exact Ext.undrew (by assumption)) (by first | assumption | exact Own.sl (by assumption))))))))) (by first | rw [List.length_map] | rfl) ?_; try (conv in (Act.put _ _ _) => simp only [Act.put, List.setIfInBounds_toArray, List.set_cons_succ, List.set_cons_zero]))
      | ((with_reducible refine g_at (d := 36) ?_); refine wpl_string rfl Tryd.underlying36 Tryd.underlying5 Tryd.underlying9 (by first | assumption | exact Own.sl (by assumption) | exact Sl.back (by first | assumption | exact Ext.drew' (by assumption) | exact Ext.undrew (by assumption)) (by first | assumption | exact Own.sl (by assumption) | exact Sl.back (by first | assumption | exact Ext.drew' (by assumption) | exact Ext.undrew (by assumption)) (by first | assumption | exact Own.sl (by assumption) | exact Sl.back (by first | assumption | exact Ext.drew' (by assumption) | exact Ext.undrew (by assumption)) (by first | assumption | exact Own.sl (by assumption) | exact Sl.back (by first | assumption | exact Ext.drew' (by assumption) | exact Ext.undrew (by assumption)) (by first | assumption | exact Own.sl (by assumption) | exact Sl.back (by first | assumption | exact Ext.drew' (by assumption) | exact Ext.undrew (by assumption)) (by first | assumption | exact Own.sl (by assumption) | exact Sl.back (by first | assumption | exact Ext.drew' (by assumption) | exact Ext.undrew (by assumption)) (by first | assumption | exact Own.sl (by assumption) | exact Sl.back (by first | assumption | exact Ext.drew' (by assumption) | exact Ext.undrew (by assumption)) (by first | assumption | exact Own.sl (by assumption))))))))) ?_; try (conv in (Act.put _ _ _) => simp only [Act.put, List.setIfInBounds_toArray, List.set_cons_succ, List.set_cons_zero]))
      | ((with_reducible refine g_at (d := 39) ?_); refine wpl_string rfl Tryd.underlying36 Tryd.underlying5 Tryd.underlying9 (by first | assumption | exact Own.sl (by assumption) | exact Sl.back (by first | assumption | exact Ext.drew' (by assumption) | exact Ext.undrew (by assumption)) (by first | assumption | exact Own.sl (by assumption) | exact Sl.back (by first | assumption | exact Ext.drew' (by assumption) | exact Ext.undrew (by assumption)) (by first | assumption | exact Own.sl (by assumption) | exact Sl.back (by first | assumption | exact Ext.drew' (by assumption) | exact Ext.undrew (by assumption)) (by first | assumption | exact Own.sl (by assumption) | exact Sl.back (by first | assumption | exact Ext.drew' (by assumption) | exact Ext.undrew (by assumption)) (by first | assumption | exact Own.sl (by assumption) | exact Sl.back (by first | assumption | exact Ext.drew' (by assumption) | exact Ext.undrew (by assumption)) (by first | assumption | exact Own.sl (by assumption) | exact Sl.back (by first | assumption | exact Ext.drew' (by assumption) | exact Ext.undrew (by assumption)) (by first | assumption | exact Own.sl (by assumption) | exact Sl.back (by first | assumption | exact Ext.drew' (by assumption) | exact Ext.undrew (by assumption)) (by first | assumption | exact Own.sl (by assumption))))))))) ?_; try (conv in (Act.put _ _ _) => simp only [Act.put, List.setIfInBounds_toArray, List.set_cons_succ, List.set_cons_zero])))
    have hS := h9.sl
    refine wp_region_rel 13 42 Ext (by kernel_rfl) (by kernel_rfl) (by kernel_rfl) rfl rfl (fun _ => Below.refl _ _) (fun _ _ _ => Ext.tr) ?_
    refine r_move _ rfl (stays_eq _) ?_
    refine r_move _ rfl (stays_eq _) ?_
    refine r_move _ rfl (stays_eq _) ?_
    refine r_bin rfl rfl (by intro w; (try go_simp); (try go_ints); (first | done | rfl)) ?_
    refine r_pick _ rfl rfl (by first | exact stays_eq _ | exact stays_sl _ _ | exact stays_own _ _ _ | exact stays_cell _ | exact stays_sle _) ?_
    refine r_move _ rfl (stays_eq _) ?_
    refine r_move _ rfl (stays_eq _) ?_
    refine r_str Tryd.underlying36 Tryd.underlying5 Tryd.underlying9 (by rintro _ w hX rfl; exact ⟨_, Sl.extd hS hX⟩) ?_
    refine r_move _ rfl (stays_eq _) ?_
    refine r_call1 (SlE ((tailOf k).map bU)) (by first | exact stays_eq _ | exact stays_sl _ _ | exact stays_own _ _ _ | exact stays_cell _ | exact stays_sle _) Tryd.func20 (by kernel_rfl) (by kernel_rfl) (fun v w hX h => by obtain rfl : v = _ := h; exact ret_sle (reftail_c w k h3)) ?_
    refine r_str Tryd.underlying36 Tryd.underlying5 Tryd.underlying9 (fun _ _ _ h => h) ?_
    refine r_bin rfl rfl (by intro w; exact run_streqb _ _ _ (tailOf k) (tailOf k) (decide_eq_true rfl)) ?_
    refine r_pick _ rfl rfl (by first | exact stays_eq _ | exact stays_sl _ _ | exact stays_own _ _ _ | exact stays_cell _ | exact stays_sle _) ?_
    intro wR5 hxR5; have gxR5 := hxR5.undrew
    refine Fin_eq ?_
    refine Fin_eq ?_
    refine Fin_eq ?_
    refine Fin_eq ?_
    refine Fin_eq ?_
    refine Fin_eq ?_
    refine Fin_eq ?_
    refine Fin_eq ?_
    refine Fin_eq ?_
    intro v38 h38
    refine Fin_eq ?_
    refine Fin_eq ?_
    refine Fin_eq ?_
    show wpList _ _ _ _ _ _
    simp only [Act.put, List.setIfInBounds_toArray, List.set_cons_succ, List.set_cons_zero, Array.getD_eq_getD_getElem?, List.getElem?_toArray, List.getElem?_cons_succ, List.getElem?_cons_zero, Option.getD_some]
    simp only [List.toList_toArray, List.drop_succ_cons, List.drop_zero]
    go_wp2
    go_ret
    exact ⟨_, rfl, (hx6.tr hx9).tr gxR5, rfl⟩
end Go.Proofs.YtmdijgmnopidpaaDoor
