import Derived.Test.YtmdijgmnopidpaaDoorShaH
import Derived.Test.YtmdijgmnopidpaaDoorRq
set_option linter.unusedVariables false
set_option linter.unusedSimpArgs false
namespace Go.Proofs.YtmdijgmnopidpaaDoor
open Go.RowKit Go.Ch

theorem run_streqb {P : Program} {w : World} (t : TypeId) (x y : Operand) (a b : List UInt8) {c : Bool} (h : decide (a = b) = c) : binRun P .eql t x y (.string ⟨a.toArray⟩) (.string ⟨b.toArray⟩) w = .ok (.bool c) w := by
  rw [← h]; exact run_streq t x y a b

def abcSum : List UInt8 := [186, 120, 22, 191, 143, 1, 207, 234, 65, 65, 64, 222, 93, 174, 34, 35, 176, 3, 97, 163, 150, 23, 122, 156, 180, 16, 255, 97, 242, 0, 21, 173]
theorem abc_sum : digest consts begin8 [97, 98, 99] = abcSum := by decide +kernel
theorem words_cells : Tryd.prog.cellsOf 24 = 1 := by kernel_rfl
theorem guardW8 : Tryd.prog.eqGuardType Tryd.prog.depth 28 = false := by kernel_rfl
theorem guardW64 : Tryd.prog.eqGuardType Tryd.prog.depth 25 = false := by kernel_rfl

set_option maxRecDepth 100000 in
set_option maxHeartbeats 4000000 in
theorem up_c (w : World) (hG : GK w) :
    Calls Tryd.prog 11 #[] w (Ret fun v' w' => Ext w w' ∧ v' = .bool true) := by
  obtain ⟨i5, hi5, hz5, hs5, hb5⟩ := info_parts infoU8
  have hsz5 := info_size infoU8
  have hl64 : (tailOf 64).length = 64 := rfl
  go_enter Tryd.func11, Tryd.ntmps11
  go_wp2_with (first
    | ((with_reducible refine g_at (d := 5) ?_); refine wpl_call Tryd.func19 (by kernel_rfl) (by kernel_rfl) rfl (tail_c _ 64 (by omega)) ?_; rintro v5 w5 ⟨hx5, v1, rfl, h5⟩; try (conv in (Act.put _ _ _) => simp only [Act.put, List.setIfInBounds_toArray, List.set_cons_succ, List.set_cons_zero]))
    | ((with_reducible refine g_at (d := 8) ?_); refine wpl_buildSlice (vs := [bU 97, bU 98, bU 99]) Tryd.underlying36 hi5 hz5 hs5 rfl (xs := [(.const (.int .u8 97)), (.const (.int .u8 98)), (.const (.int .u8 99))]) rfl rfl rfl (by intro u hu; simp at hu; rcases hu with rfl | rfl | rfl <;> rfl) (by omega) ?_; intro v8 w8 h8 hx8 ha8; try (conv in (Act.put _ _ _) => simp only [Act.put, List.setIfInBounds_toArray, List.set_cons_succ, List.set_cons_zero]))
    | ((with_reducible refine g_at (d := 9) ?_); refine wpl_bytesconst rfl Tryd.underlying36 Tryd.underlying5 h8 ha8 hx8.size ?_; intro w9 h9 hg9 hx9; try (conv in (Act.put _ _ _) => simp only [Act.put, List.setIfInBounds_toArray, List.set_cons_succ, List.set_cons_zero]))
    | ((with_reducible refine g_at (d := 10) ?_); refine wpl_call Tryd.func22 (by kernel_rfl) (by kernel_rfl) rfl (sum_c _ _ _ [97, 98, 99] h9 (by simp) (hG.ext ((hx5.tr hx8).trans (hx9.mono hx5.size)))) ?_; rintro v10 w10 ⟨hx10, h10⟩; rw [abc_sum] at h10; try (conv in (Act.put _ _ _) => simp only [Act.put, List.setIfInBounds_toArray, List.set_cons_succ, List.set_cons_zero]))
    | ((with_reducible refine g_at (d := 11) ?_); refine wpl_string rfl Tryd.underlying36 Tryd.underlying5 Tryd.underlying9 h10.sl ?_; try (conv in (Act.put _ _ _) => simp only [Act.put, List.setIfInBounds_toArray, List.set_cons_succ, List.set_cons_zero]))
    | ((with_reducible refine g_at (d := 13) ?_); refine wpl_bin rfl rfl (by exact run_streqb _ _ _ abcSum abcSum (decide_eq_true rfl)) ?_; try (conv in (Act.put _ _ _) => simp only [Act.put, List.setIfInBounds_toArray, List.set_cons_succ, List.set_cons_zero]))
    | ((with_reducible refine g_at (d := 20) ?_); refine wpl_len rfl Tryd.underlying36 (((h5.sl.ext hx8).below hx9).ext hx10) (by first | rw [List.length_map] | rfl) ?_; try (conv in (Act.put _ _ _) => simp only [Act.put, List.setIfInBounds_toArray, List.set_cons_succ, List.set_cons_zero]))
    | ((with_reducible refine g_at (d := 25) ?_); refine wpl_index rfl rfl Tryd.underlying36 hi5 hs5 (((h5.sl.ext hx8).below hx9).ext hx10) rfl (show _ = some (.int .u8 128) from rfl) ?_; intro ad25 hb25 hc25; try (conv in (Act.put _ _ _) => simp only [Act.put, List.setIfInBounds_toArray, List.set_cons_succ, List.set_cons_zero]))
    | ((with_reducible refine g_at (d := 31) ?_); refine wpl_index rfl rfl Tryd.underlying36 hi5 hs5 (((h5.sl.ext hx8).below hx9).ext hx10) rfl (show _ = some (.int .u8 2) from rfl) ?_; intro ad31 hb31 hc31; try (conv in (Act.put _ _ _) => simp only [Act.put, List.setIfInBounds_toArray, List.set_cons_succ, List.set_cons_zero])))
  go_ret
  exact ⟨_, rfl, Ext.tr ((hx5.tr hx8).trans (hx9.mono hx5.size)) hx10, rfl⟩

set_option maxRecDepth 100000 in
set_option maxHeartbeats 4000000 in
theorem schedules_c (w : World) (bl : List UInt8) (hl : bl.length = 64) (hG : GK w) :
    Calls Tryd.prog 3 #[b64 bl] w (Ret fun v' w' => Ext w w' ∧ v' = .bool true) := by
  obtain ⟨i22, hi22, hz22, hs22, hb22⟩ := info_parts infoB64
  have hsz22 := info_size infoB64
  obtain ⟨i24, hi24, hz24, hs24, hb24⟩ := info_parts infoU32
  have hsz24 := info_size infoU32
  have hls := length_sched bl
  unfold b64
  go_enter Tryd.func3, Tryd.ntmps3
  go_wp2_with (first
    | ((with_reducible refine g_at (d := 1) ?_); refine wpl_box (cs := (bl.map bU).toArray) rfl rfl ?_; intro b1 w1 hB1 hb1 hx1; try (conv in (Act.put _ _ _) => simp only [Act.put, List.setIfInBounds_toArray, List.set_cons_succ, List.set_cons_zero]))
    | ((with_reducible refine g_at (d := 4) ?_); refine wpl_call Tryd.func11 (by kernel_rfl) (by kernel_rfl) rfl (up_c _ (hG.ext hx1)) ?_; rintro v4 w4 ⟨hx4, rfl⟩; try (conv in (Act.put _ _ _) => simp only [Act.put, List.setIfInBounds_toArray, List.set_cons_succ, List.set_cons_zero])))
  have hB := hB1.ext hx4
  refine wp_region_rel 8 13 Ext (by kernel_rfl) (by kernel_rfl) (by kernel_rfl) rfl rfl (fun _ => Below.refl _ _) (fun _ _ _ => Ext.tr) ?_
  refine r_move _ rfl (stays_eq _) ?_
  refine r_move _ rfl (stays_eq _) ?_
  refine r_loadrow Tryd.underlying22 rfl rfl hB (by simp [hsz22, hl]) ?_
  refine r_callX _ Tryd.func12 (by kernel_rfl) (by kernel_rfl) rfl (fun w hX => sched_c _ bl hl) ?_
  refine r_loadrow Tryd.underlying22 rfl rfl hB (by simp [hsz22, hl]) ?_
  refine r_callX _ Tryd.func13 (by kernel_rfl) (by kernel_rfl) rfl (fun w hX => refsched_c _ bl hl) ?_
  refine r_bin rfl rfl (by intro w; exact run_eq_wordsb Tryd.underlying25 Tryd.underlying24 hi24 words_cells guardW64 _ _ (sched bl) (sched bl) hls hls (decide_eq_true rfl) w) ?_
  refine r_pick _ rfl rfl (by first | exact stays_eq _ | exact stays_sl _ _ | exact stays_own _ _ _ | exact stays_cell _ | exact stays_sle _) ?_
  intro wR2 hxR2; have gxR2 := hxR2.undrew
  refine Fin_eq ?_
  refine Fin_eq ?_
  refine Fin_eq ?_
  refine Fin_eq ?_
  refine Fin_eq ?_
  refine Fin_eq ?_
  refine Fin_eq ?_
  refine Fin_eq ?_
  show wpList _ _ _ _ _ _
  simp only [Act.put, List.setIfInBounds_toArray, List.set_cons_succ, List.set_cons_zero, Array.getD_eq_getD_getElem?, List.getElem?_toArray, List.getElem?_cons_succ, List.getElem?_cons_zero, Option.getD_some]
  simp only [List.toList_toArray, List.drop_succ_cons, List.drop_zero]
  go_wp2
  go_ret
  exact ⟨_, rfl, (hx1.tr hx4).tr gxR2, rfl⟩

set_option maxRecDepth 100000 in
set_option maxHeartbeats 4000000 in
theorem rounds_c (w : World) (v : Words) (n : UInt32) (hG : GK w) :
    Calls Tryd.prog 4 #[wds v, w32 n] w (Ret fun v' w' => Ext w w' ∧ v' = .bool true) := by
  obtain ⟨i28, hi28, hz28, hs28, hb28⟩ := info_parts infoW8
  have hsz28 := info_size infoW8
  obtain ⟨i24, hi24, hz24, hs24, hb24⟩ := info_parts infoU32
  have hsz24 := info_size infoU32
  unfold wds
  go_enter Tryd.func4, Tryd.ntmps4
  go_wp2_with (first
    | ((with_reducible refine g_at (d := 2) ?_); refine wpl_box (cs := (v.list.map w32).toArray) rfl rfl ?_; intro b2 w2 hB2 hb2 hx2; try (conv in (Act.put _ _ _) => simp only [Act.put, List.setIfInBounds_toArray, List.set_cons_succ, List.set_cons_zero]))
    | ((with_reducible refine g_at (d := 6) ?_); refine wpl_call Tryd.func11 (by kernel_rfl) (by kernel_rfl) rfl (up_c _ (hG.ext hx2)) ?_; rintro v6 w6 ⟨hx6, rfl⟩; try (conv in (Act.put _ _ _) => simp only [Act.put, List.setIfInBounds_toArray, List.set_cons_succ, List.set_cons_zero])))
  have hB := hB2.ext hx6
  refine wp_region_rel 10 17 Ext (by kernel_rfl) (by kernel_rfl) (by kernel_rfl) rfl rfl (fun _ => Below.refl _ _) (fun _ _ _ => Ext.tr) ?_
  refine r_move _ rfl (stays_eq _) ?_
  refine r_move _ rfl (stays_eq _) ?_
  refine r_loadrow Tryd.underlying28 rfl rfl hB (by simp [hsz28, len8]) ?_
  refine r_move _ rfl (stays_eq _) ?_
  refine r_callX _ Tryd.func14 (by kernel_rfl) (by kernel_rfl) rfl (fun w hX => round_c _ v n) ?_
  refine r_loadrow Tryd.underlying28 rfl rfl hB (by simp [hsz28, len8]) ?_
  refine r_move _ rfl (stays_eq _) ?_
  refine r_callX _ Tryd.func15 (by kernel_rfl) (by kernel_rfl) rfl (fun w hX => refround_c _ v n) ?_
  refine r_bin rfl rfl (by intro w; exact run_eq_wordsb Tryd.underlying28 Tryd.underlying24 hi24 words_cells guardW8 _ _ _ _ (len8 _) (len8 _) (decide_eq_true rfl) w) ?_
  refine r_pick _ rfl rfl (by first | exact stays_eq _ | exact stays_sl _ _ | exact stays_own _ _ _ | exact stays_cell _ | exact stays_sle _) ?_
  intro wR2 hxR2; have gxR2 := hxR2.undrew
  refine Fin_eq ?_
  refine Fin_eq ?_
  refine Fin_eq ?_
  refine Fin_eq ?_
  refine Fin_eq ?_
  refine Fin_eq ?_
  refine Fin_eq ?_
  refine Fin_eq ?_
  refine Fin_eq ?_
  refine Fin_eq ?_
  show wpList _ _ _ _ _ _
  simp only [Act.put, List.setIfInBounds_toArray, List.set_cons_succ, List.set_cons_zero, Array.getD_eq_getD_getElem?, List.getElem?_toArray, List.getElem?_cons_succ, List.getElem?_cons_zero, Option.getD_some]
  simp only [List.toList_toArray, List.drop_succ_cons, List.drop_zero]
  go_wp2
  go_ret
  exact ⟨_, rfl, (hx2.tr hx6).tr gxR2, rfl⟩
end Go.Proofs.YtmdijgmnopidpaaDoor
