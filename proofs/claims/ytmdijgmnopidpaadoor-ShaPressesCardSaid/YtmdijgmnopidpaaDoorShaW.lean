import Derived.Test.YtmdijgmnopidpaaDoorShaI
import Derived.Test.YtmdijgmnopidpaaDoorShaU
set_option linter.unusedVariables false
set_option linter.unusedSimpArgs false
namespace Go.Proofs.YtmdijgmnopidpaaDoor
open Go.RowKit Go.Ch

set_option maxRecDepth 100000 in
set_option maxHeartbeats 4000000 in
theorem presses_c (w : World) (v : Words) (bl : List UInt8) (hl : bl.length = 64) (hG : GK w) :
    Calls Tryd.prog 5 #[wds v, b64 bl] w (Ret fun v' w' => Ext w w' ∧ v' = .bool true) := by
  obtain ⟨i28, hi28, hz28, hs28, hb28⟩ := info_parts infoW8
  have hsz28 := info_size infoW8
  obtain ⟨i22, hi22, hz22, hs22, hb22⟩ := info_parts infoB64
  have hsz22 := info_size infoB64
  obtain ⟨i24, hi24, hz24, hs24, hb24⟩ := info_parts infoU32
  have hsz24 := info_size infoU32
  unfold wds b64
  go_enter Tryd.func5, Tryd.ntmps5
  go_wp2_with (first
    | ((with_reducible refine g_at (d := 2) ?_); refine wpl_box (cs := (v.list.map w32).toArray) rfl rfl ?_; intro b2 w2 hB2 hb2 hx2; try (conv in (Act.put _ _ _) => simp only [Act.put, List.setIfInBounds_toArray, List.set_cons_succ, List.set_cons_zero]))
    | ((with_reducible refine g_at (d := 3) ?_); refine wpl_box (cs := (bl.map bU).toArray) rfl rfl ?_; intro b3 w3 hB3 hb3 hx3; try (conv in (Act.put _ _ _) => simp only [Act.put, List.setIfInBounds_toArray, List.set_cons_succ, List.set_cons_zero]))
    | ((with_reducible refine g_at (d := 6) ?_); refine wpl_call Tryd.func11 (by kernel_rfl) (by kernel_rfl) rfl (up_c _ ((hG.ext hx2).ext hx3)) ?_; rintro v6 w6 ⟨hx6, rfl⟩; try (conv in (Act.put _ _ _) => simp only [Act.put, List.setIfInBounds_toArray, List.set_cons_succ, List.set_cons_zero])))
  have hB2' := (hB2.ext hx3).ext hx6
  have hB3' := hB3.ext hx6
  have hG' := ((hG.ext hx2).ext hx3).ext hx6
  refine wp_region_rel 11 18 Ext (by kernel_rfl) (by kernel_rfl) (by kernel_rfl) rfl rfl (fun _ => Below.refl _ _) (fun _ _ _ => Ext.tr) ?_
  refine r_move _ rfl (stays_eq _) ?_
  refine r_move _ rfl (stays_eq _) ?_
  refine r_loadrow Tryd.underlying28 rfl rfl hB2' (by simp [hsz28, len8]) ?_
  refine r_loadrow Tryd.underlying22 rfl rfl hB3' (by simp [hsz22, hl]) ?_
  refine r_callX _ Tryd.func16 (by kernel_rfl) (by kernel_rfl) rfl (fun w hX => press_c _ v bl hl (hG'.ext hX.undrew)) ?_
  refine r_call0 (SlE (consts.map w32)) (by first | exact stays_eq _ | exact stays_sl _ _ | exact stays_own _ _ _ | exact stays_cell _ | exact stays_sle _) Tryd.func18 (by kernel_rfl) (by kernel_rfl) (fun w hX => ret_sle (constants_c w)) ?_
  refine r_loadrow Tryd.underlying28 rfl rfl hB2' (by simp [hsz28, len8]) ?_
  refine r_loadrow Tryd.underlying22 rfl rfl hB3' (by simp [hsz22, hl]) ?_
  refine r_call3 (fun v' _ => v' = wds (pressOf consts v bl)) (by first | exact stays_eq _ | exact stays_sl _ _ | exact stays_own _ _ _ | exact stays_cell _ | exact stays_sle _) Tryd.func17 (by kernel_rfl) (by kernel_rfl) (fun x y z w hX hx hy hz => by obtain ⟨B, hk⟩ := hx; obtain rfl : y = _ := hy; obtain rfl : z = _ := hz; exact refpress_c w B x consts hk rfl v bl hl) ?_
  refine r_bin rfl rfl (by intro w; exact run_eq_wordsb Tryd.underlying28 Tryd.underlying24 hi24 words_cells guardW8 _ _ _ _ (len8 _) (len8 _) (decide_eq_true rfl) w) ?_
  refine r_pick _ rfl rfl (by first | exact stays_eq _ | exact stays_sl _ _ | exact stays_own _ _ _ | exact stays_cell _ | exact stays_sle _) ?_
  intro wR2 hxR2; have gxR2 := hxR2.undrew
  refine Fin_eq ?_
  refine Fin_eq ?_
  refine Fin_eq ?_
  refine Fin_eq ?_
  refine Fin_eq ?_
  intro v12 h12
  refine Fin_eq ?_
  refine Fin_eq ?_
  intro v15 h15
  refine Fin_eq ?_
  refine Fin_eq ?_
  show wpList _ _ _ _ _ _
  simp only [Act.put, List.setIfInBounds_toArray, List.set_cons_succ, List.set_cons_zero, Array.getD_eq_getD_getElem?, List.getElem?_toArray, List.getElem?_cons_succ, List.getElem?_cons_zero, Option.getD_some]
  simp only [List.toList_toArray, List.drop_succ_cons, List.drop_zero]
  go_wp2
  go_ret
  exact ⟨_, rfl, ((hx2.tr hx3).tr hx6).tr gxR2, rfl⟩
end Go.Proofs.YtmdijgmnopidpaaDoor
