import Derived.Test.YtamddohbpdbdmaaDoorZ4
import Derived.Test.YtamddohbpdbdmaaDoorRows
import Derived.Test.YtamddohbpdbdmaaDoorChecked
import Derived.ProofKit
import Derived.LaidMore
import Derived.OpenShut
import Derived.Stop.Joined
import Derived.Test.YtamddohbpdbdmaaDoorProg
import Derived.Shelf.RegionOpenPlain
import Derived.WalkKit
import Derived.Lib.Walk
import Derived.Lib.SliceRun
import Derived.Lib.AppendZerosOnto
section
set_option linter.unusedVariables false
set_option linter.unusedSimpArgs false
namespace Go.Proofs.YtamddohbpdbdmaaDoor
open Go.RowKit Go.Ch
set_option maxRecDepth 100000 in
set_option maxHeartbeats 8000000 in
theorem refpress_c (w : World) (B : Nat) (kv : Value) (ks : List UInt32) (hks : Sl w B kv (ks.map w32)) (hkl : ks.length = 64) (v : Words) (bl : List UInt8) (hl : bl.length = 64) :
    Calls Tryd.prog 32 #[kv, wds v, b64 bl] w (Ret fun v' w' => Ext w w' ∧ v' = wds (pressOf ks v bl)) := by
  obtain ⟨i28, hi28, hz28, hs28, hb28⟩ := info_parts infoU32
  have hsz28 := info_size infoU32
  obtain ⟨i5, hi5, hz5, hs5, hb5⟩ := info_parts infoU8
  have hsz5 := info_size infoU8
  obtain ⟨i29, hi29, hz29, hs29, hb29⟩ := info_parts infoW8
  have hsz29 := info_size infoW8
  obtain ⟨i54, hi54, hz54, hs54, hb54⟩ := info_parts infoB64
  have hsz54 := info_size infoB64
  obtain ⟨i62, hi62, hz62, hs62, hb62⟩ := info_parts infoW64
  have hsz62 := info_size infoW64
  have hls := length_sched bl
  unfold wds b64
  go_enter Tryd.func32, Tryd.ntmps32
  go_wp2_with (first
    | ((with_reducible refine g_at (d := 4) ?_); refine wpl_box (cs := (v.list.map w32).toArray) rfl rfl ?_; intro b4 w4 hB4 hb4 hx4; try (conv in (Act.put _ _ _) => simp only [Act.put, List.setIfInBounds_toArray, List.set_cons_succ, List.set_cons_zero]))
    | ((with_reducible refine g_at (d := 5) ?_); refine wpl_box (cs := (bl.map bU).toArray) rfl rfl ?_; intro b5 w5 hB5 hb5 hx5; try (conv in (Act.put _ _ _) => simp only [Act.put, List.setIfInBounds_toArray, List.set_cons_succ, List.set_cons_zero]))
    | ((with_reducible refine g_at (d := 6) ?_); refine wpl_alloc hi29 hz29 (cs := ((zeros 8).map w32).toArray) rfl ?_; intro b6 w6 hB6 hb6 hx6; try (conv in (Act.put _ _ _) => simp only [Act.put, List.setIfInBounds_toArray, List.set_cons_succ, List.set_cons_zero]))
    | ((with_reducible refine g_at (d := 11) ?_); refine wpl_loadrow (cs := (bl.map bU).toArray) (t' := 54) rfl ((hB5.ext hx6)) Tryd.underlying54 rfl (by simp [hsz54, hl]) ?_; try (conv in (Act.put _ _ _) => simp only [Act.put, List.setIfInBounds_toArray, List.set_cons_succ, List.set_cons_zero]))
    | ((with_reducible refine g_at (d := 12) ?_); refine wpl_call Tryd.func37 (by kernel_rfl) (by kernel_rfl) rfl (refsched_c _ bl hl) ?_; rintro v12 w12 ⟨hx12, rfl⟩; unfold ws64; try (conv in (Act.put _ _ _) => simp only [Act.put, List.setIfInBounds_toArray, List.set_cons_succ, List.set_cons_zero]))
    | ((with_reducible refine g_at (d := 7) ?_); refine wpl_alloc hi62 hz62 (cs := ((zeros 64).map w32).toArray) rfl ?_; intro b7 w7 hB7 hb7 hx7; try (conv in (Act.put _ _ _) => simp only [Act.put, List.setIfInBounds_toArray, List.set_cons_succ, List.set_cons_zero]))
    | ((with_reducible refine g_storeat (n := 7) ?_); refine wpl_storerow rfl rfl hi62 (by simp [hs62, hls]) (by intro u hu; exact w32_one _ u (by simpa using hu)) hB7 (by simp [zeros, hls]) ?_; intro ws7 hBs7 hgs7 hzs7; try (conv in (Act.put _ _ _) => simp only [Act.put, List.setIfInBounds_toArray, List.set_cons_succ, List.set_cons_zero]))
    | ((with_reducible refine g_at (d := 13) ?_); refine wpl_loadrow (cs := (v.list.map w32).toArray) (t' := 29) rfl (((((hB4.ext hx5).ext hx6).ext hx12).ext hx7).grown hgs7 (by have := (((hB4.ext hx5).ext hx6).ext hx12).lt; simp; omega)) Tryd.underlying29 rfl (by simp [hsz29, len8]) ?_; try (conv in (Act.put _ _ _) => simp only [Act.put, List.setIfInBounds_toArray, List.set_cons_succ, List.set_cons_zero]))
    | ((with_reducible refine g_at (d := 8) ?_); refine wpl_alloc hi29 hz29 (cs := ((zeros 8).map w32).toArray) rfl ?_; intro b8 w8 hB8 hb8 hx8; try (conv in (Act.put _ _ _) => simp only [Act.put, List.setIfInBounds_toArray, List.set_cons_succ, List.set_cons_zero]))
    | ((with_reducible refine g_storeat (n := 8) ?_); refine wpl_storerow rfl rfl hi29 (by simp [hs29, len8]) (words_one v) hB8 (by simp [zeros, len8]) ?_; intro ws8 hBs8 hgs8 hzs8; try (conv in (Act.put _ _ _) => simp only [Act.put, List.setIfInBounds_toArray, List.set_cons_succ, List.set_cons_zero]))
    | ((with_reducible refine g_at (d := 20) ?_); refine wpl_ixarr rfl rfl Tryd.underlying62 hi28 hs28 rfl (by first | decide | omega) ?_; try (conv in (Act.put _ _ _) => simp only [Act.put, List.setIfInBounds_toArray, List.set_cons_succ, List.set_cons_zero]))
    | ((with_reducible refine g_at (d := 21) ?_); refine wpl_load1 rfl Tryd.underlying28 rfl (Blk.at_ (by first | assumption | exact Blk.back (by first | assumption | exact Ext.drew' (by assumption) | exact Ext.undrew (by assumption)) (by first | assumption | exact Blk.back (by first | assumption | exact Ext.drew' (by assumption) | exact Ext.undrew (by assumption)) (by first | assumption | exact Blk.back (by first | assumption | exact Ext.drew' (by assumption) | exact Ext.undrew (by assumption)) (by first | assumption | exact Blk.back (by first | assumption | exact Ext.drew' (by assumption) | exact Ext.undrew (by assumption)) (by first | assumption | exact Blk.back (by first | assumption | exact Ext.drew' (by assumption) | exact Ext.undrew (by assumption)) (by first | assumption | exact Blk.back (by first | assumption | exact Ext.drew' (by assumption) | exact Ext.undrew (by assumption)) (by first | assumption | exact Blk.back (by first | assumption | exact Ext.drew' (by assumption) | exact Ext.undrew (by assumption)) (by first | assumption | exact Blk.back (by first | assumption | exact Ext.drew' (by assumption) | exact Ext.undrew (by assumption)) (by first | assumption))))))))) (by first | exact at_w32 (by first | decide | omega | (simp <;> omega)) | exact at_b8 (by first | decide | omega | (simp <;> omega)) | rfl)) ?_; try (conv in (Act.put _ _ _) => simp only [Act.put, List.setIfInBounds_toArray, List.set_cons_succ, List.set_cons_zero]))
    | ((with_reducible refine g_at (d := 34) ?_); refine wpl_ixarr rfl rfl Tryd.underlying29 hi28 hs28 rfl (by first | decide | omega) ?_; try (conv in (Act.put _ _ _) => simp only [Act.put, List.setIfInBounds_toArray, List.set_cons_succ, List.set_cons_zero]))
    | ((with_reducible refine g_at (d := 35) ?_); refine wpl_load1 rfl Tryd.underlying28 rfl (Blk.at_ (by first | assumption | exact Blk.back (by first | assumption | exact Ext.drew' (by assumption) | exact Ext.undrew (by assumption)) (by first | assumption | exact Blk.back (by first | assumption | exact Ext.drew' (by assumption) | exact Ext.undrew (by assumption)) (by first | assumption | exact Blk.back (by first | assumption | exact Ext.drew' (by assumption) | exact Ext.undrew (by assumption)) (by first | assumption | exact Blk.back (by first | assumption | exact Ext.drew' (by assumption) | exact Ext.undrew (by assumption)) (by first | assumption | exact Blk.back (by first | assumption | exact Ext.drew' (by assumption) | exact Ext.undrew (by assumption)) (by first | assumption | exact Blk.back (by first | assumption | exact Ext.drew' (by assumption) | exact Ext.undrew (by assumption)) (by first | assumption | exact Blk.back (by first | assumption | exact Ext.drew' (by assumption) | exact Ext.undrew (by assumption)) (by first | assumption | exact Blk.back (by first | assumption | exact Ext.drew' (by assumption) | exact Ext.undrew (by assumption)) (by first | assumption))))))))) (by first | exact at_w32 (by first | decide | omega | (simp <;> omega)) | exact at_b8 (by first | decide | omega | (simp <;> omega)) | rfl)) ?_; try (conv in (Act.put _ _ _) => simp only [Act.put, List.setIfInBounds_toArray, List.set_cons_succ, List.set_cons_zero]))
    | ((with_reducible refine g_at (d := 37) ?_); refine wpl_ixarr rfl rfl Tryd.underlying29 hi28 hs28 rfl (by first | decide | omega) ?_; try (conv in (Act.put _ _ _) => simp only [Act.put, List.setIfInBounds_toArray, List.set_cons_succ, List.set_cons_zero]))
    | ((with_reducible refine g_at (d := 38) ?_); refine wpl_load1 rfl Tryd.underlying28 rfl (Blk.at_ (by first | assumption | exact Blk.back (by first | assumption | exact Ext.drew' (by assumption) | exact Ext.undrew (by assumption)) (by first | assumption | exact Blk.back (by first | assumption | exact Ext.drew' (by assumption) | exact Ext.undrew (by assumption)) (by first | assumption | exact Blk.back (by first | assumption | exact Ext.drew' (by assumption) | exact Ext.undrew (by assumption)) (by first | assumption | exact Blk.back (by first | assumption | exact Ext.drew' (by assumption) | exact Ext.undrew (by assumption)) (by first | assumption | exact Blk.back (by first | assumption | exact Ext.drew' (by assumption) | exact Ext.undrew (by assumption)) (by first | assumption | exact Blk.back (by first | assumption | exact Ext.drew' (by assumption) | exact Ext.undrew (by assumption)) (by first | assumption | exact Blk.back (by first | assumption | exact Ext.drew' (by assumption) | exact Ext.undrew (by assumption)) (by first | assumption | exact Blk.back (by first | assumption | exact Ext.drew' (by assumption) | exact Ext.undrew (by assumption)) (by first | assumption))))))))) (by first | exact at_w32 (by first | decide | omega | (simp <;> omega)) | exact at_b8 (by first | decide | omega | (simp <;> omega)) | rfl)) ?_; try (conv in (Act.put _ _ _) => simp only [Act.put, List.setIfInBounds_toArray, List.set_cons_succ, List.set_cons_zero]))
    | ((with_reducible refine g_at (d := 40) ?_); refine wpl_ixarr rfl rfl Tryd.underlying29 hi28 hs28 rfl (by first | decide | omega) ?_; try (conv in (Act.put _ _ _) => simp only [Act.put, List.setIfInBounds_toArray, List.set_cons_succ, List.set_cons_zero]))
    | ((with_reducible refine g_at (d := 26) ?_); refine wpl_bin rfl rfl (by exact Go.Ch.run_add32 _ _ _ _ _ _) ?_; try (conv in (Act.put _ _ _) => simp only [Act.put, List.setIfInBounds_toArray, List.set_cons_succ, List.set_cons_zero]))
    | ((with_reducible refine g_at (d := 39) ?_); refine wpl_bin rfl rfl (by exact Go.Ch.run_add32 _ _ _ _ _ _) ?_; try (conv in (Act.put _ _ _) => simp only [Act.put, List.setIfInBounds_toArray, List.set_cons_succ, List.set_cons_zero])))
  have h4lt := (((hB4.ext hx5).ext hx6).ext hx12).lt
  have h6lt := (hB6.ext hx12).lt
  have h7lt := hBs7.lt
  have hB7w := (hBs7.ext hx8).grown hgs8 (by simp; omega)
  have hB4w := ((((((hB4.ext hx5).ext hx6).ext hx12).ext hx7).grown hgs7 (by simp; omega)).ext hx8).grown hgs8 (by have h1 := hx8.size; simp; omega)
  have hB6w := ((((hB6.ext hx12).ext hx7).grown hgs7 (by simp; omega)).ext hx8).grown hgs8 (by simp; omega)
  have hxw : Ext w ws8 := by
    have e1 : Ext w w7 := (by first | exact Below.refl _ _ | assumption | exact Ext.drew' (by assumption) | exact Ext.undrew (by assumption) | exact Ext.back (by first | assumption | exact Ext.drew' (by assumption) | exact Ext.undrew (by assumption)) (by first | exact Below.refl _ _ | assumption | exact Ext.drew' (by assumption) | exact Ext.undrew (by assumption) | exact Ext.back (by first | assumption | exact Ext.drew' (by assumption) | exact Ext.undrew (by assumption)) (by first | exact Below.refl _ _ | assumption | exact Ext.drew' (by assumption) | exact Ext.undrew (by assumption) | exact Ext.back (by first | assumption | exact Ext.drew' (by assumption) | exact Ext.undrew (by assumption)) (by first | exact Below.refl _ _ | assumption | exact Ext.drew' (by assumption) | exact Ext.undrew (by assumption) | exact Ext.back (by first | assumption | exact Ext.drew' (by assumption) | exact Ext.undrew (by assumption)) (by first | exact Below.refl _ _ | assumption | exact Ext.drew' (by assumption) | exact Ext.undrew (by assumption) | exact Ext.back (by first | assumption | exact Ext.drew' (by assumption) | exact Ext.undrew (by assumption)) (by first | exact Below.refl _ _ | assumption | exact Ext.drew' (by assumption) | exact Ext.undrew (by assumption) | exact Ext.back (by first | assumption | exact Ext.drew' (by assumption) | exact Ext.undrew (by assumption)) (by first | exact Below.refl _ _ | assumption | exact Ext.drew' (by assumption) | exact Ext.undrew (by assumption) | exact Ext.back (by first | assumption | exact Ext.drew' (by assumption) | exact Ext.undrew (by assumption)) (by first | exact Below.refl _ _ | assumption | exact Ext.drew' (by assumption) | exact Ext.undrew (by assumption) | exact Ext.back (by first | assumption | exact Ext.drew' (by assumption) | exact Ext.undrew (by assumption)) (by first | exact Below.refl _ _ | assumption | exact Ext.drew' (by assumption) | exact Ext.undrew (by assumption))))))))))
    have h1 := e1.size
    have h2 := hx7.size
    have e2 : Ext w ws7 := e1.trans (grown_below hgs7 (by have h3 : w.heap.size ≤ w12.heap.size := (show Ext w w12 from (by first | exact Below.refl _ _ | assumption | exact Ext.drew' (by assumption) | exact Ext.undrew (by assumption) | exact Ext.back (by first | assumption | exact Ext.drew' (by assumption) | exact Ext.undrew (by assumption)) (by first | exact Below.refl _ _ | assumption | exact Ext.drew' (by assumption) | exact Ext.undrew (by assumption) | exact Ext.back (by first | assumption | exact Ext.drew' (by assumption) | exact Ext.undrew (by assumption)) (by first | exact Below.refl _ _ | assumption | exact Ext.drew' (by assumption) | exact Ext.undrew (by assumption) | exact Ext.back (by first | assumption | exact Ext.drew' (by assumption) | exact Ext.undrew (by assumption)) (by first | exact Below.refl _ _ | assumption | exact Ext.drew' (by assumption) | exact Ext.undrew (by assumption) | exact Ext.back (by first | assumption | exact Ext.drew' (by assumption) | exact Ext.undrew (by assumption)) (by first | exact Below.refl _ _ | assumption | exact Ext.drew' (by assumption) | exact Ext.undrew (by assumption) | exact Ext.back (by first | assumption | exact Ext.drew' (by assumption) | exact Ext.undrew (by assumption)) (by first | exact Below.refl _ _ | assumption | exact Ext.drew' (by assumption) | exact Ext.undrew (by assumption) | exact Ext.back (by first | assumption | exact Ext.drew' (by assumption) | exact Ext.undrew (by assumption)) (by first | exact Below.refl _ _ | assumption | exact Ext.drew' (by assumption) | exact Ext.undrew (by assumption) | exact Ext.back (by first | assumption | exact Ext.drew' (by assumption) | exact Ext.undrew (by assumption)) (by first | exact Below.refl _ _ | assumption | exact Ext.drew' (by assumption) | exact Ext.undrew (by assumption) | exact Ext.back (by first | assumption | exact Ext.drew' (by assumption) | exact Ext.undrew (by assumption)) (by first | exact Below.refl _ _ | assumption | exact Ext.drew' (by assumption) | exact Ext.undrew (by assumption))))))))))).size; omega) h1)
    have e3 : Ext w w8 := e2.tr hx8
    exact e3.trans (grown_below hgs8 (by have h3 := e2.size; omega) e3.size)
  have hb8w : w.heap.size ≤ b8 := by have h3 : w.heap.size ≤ ws7.heap.size := by { have h4 : w.heap.size ≤ w7.heap.size := (show Ext w w7 from (by first | exact Below.refl _ _ | assumption | exact Ext.drew' (by assumption) | exact Ext.undrew (by assumption) | exact Ext.back (by first | assumption | exact Ext.drew' (by assumption) | exact Ext.undrew (by assumption)) (by first | exact Below.refl _ _ | assumption | exact Ext.drew' (by assumption) | exact Ext.undrew (by assumption) | exact Ext.back (by first | assumption | exact Ext.drew' (by assumption) | exact Ext.undrew (by assumption)) (by first | exact Below.refl _ _ | assumption | exact Ext.drew' (by assumption) | exact Ext.undrew (by assumption) | exact Ext.back (by first | assumption | exact Ext.drew' (by assumption) | exact Ext.undrew (by assumption)) (by first | exact Below.refl _ _ | assumption | exact Ext.drew' (by assumption) | exact Ext.undrew (by assumption) | exact Ext.back (by first | assumption | exact Ext.drew' (by assumption) | exact Ext.undrew (by assumption)) (by first | exact Below.refl _ _ | assumption | exact Ext.drew' (by assumption) | exact Ext.undrew (by assumption) | exact Ext.back (by first | assumption | exact Ext.drew' (by assumption) | exact Ext.undrew (by assumption)) (by first | exact Below.refl _ _ | assumption | exact Ext.drew' (by assumption) | exact Ext.undrew (by assumption) | exact Ext.back (by first | assumption | exact Ext.drew' (by assumption) | exact Ext.undrew (by assumption)) (by first | exact Below.refl _ _ | assumption | exact Ext.drew' (by assumption) | exact Ext.undrew (by assumption) | exact Ext.back (by first | assumption | exact Ext.drew' (by assumption) | exact Ext.undrew (by assumption)) (by first | exact Below.refl _ _ | assumption | exact Ext.drew' (by assumption) | exact Ext.undrew (by assumption) | exact Ext.back (by first | assumption | exact Ext.drew' (by assumption) | exact Ext.undrew (by assumption)) (by first | exact Below.refl _ _ | assumption | exact Ext.drew' (by assumption) | exact Ext.undrew (by assumption))))))))))).size; omega }; omega
  have hb6w : w.heap.size ≤ b6 := by have h2 : w.heap.size ≤ w5.heap.size := (show Ext w w5 from (by first | exact Below.refl _ _ | assumption | exact Ext.drew' (by assumption) | exact Ext.undrew (by assumption) | exact Ext.back (by first | assumption | exact Ext.drew' (by assumption) | exact Ext.undrew (by assumption)) (by first | exact Below.refl _ _ | assumption | exact Ext.drew' (by assumption) | exact Ext.undrew (by assumption) | exact Ext.back (by first | assumption | exact Ext.drew' (by assumption) | exact Ext.undrew (by assumption)) (by first | exact Below.refl _ _ | assumption | exact Ext.drew' (by assumption) | exact Ext.undrew (by assumption) | exact Ext.back (by first | assumption | exact Ext.drew' (by assumption) | exact Ext.undrew (by assumption)) (by first | exact Below.refl _ _ | assumption | exact Ext.drew' (by assumption) | exact Ext.undrew (by assumption) | exact Ext.back (by first | assumption | exact Ext.drew' (by assumption) | exact Ext.undrew (by assumption)) (by first | exact Below.refl _ _ | assumption | exact Ext.drew' (by assumption) | exact Ext.undrew (by assumption) | exact Ext.back (by first | assumption | exact Ext.drew' (by assumption) | exact Ext.undrew (by assumption)) (by first | exact Below.refl _ _ | assumption | exact Ext.drew' (by assumption) | exact Ext.undrew (by assumption) | exact Ext.back (by first | assumption | exact Ext.drew' (by assumption) | exact Ext.undrew (by assumption)) (by first | exact Below.refl _ _ | assumption | exact Ext.drew' (by assumption) | exact Ext.undrew (by assumption) | exact Ext.back (by first | assumption | exact Ext.drew' (by assumption) | exact Ext.undrew (by assumption)) (by first | exact Below.refl _ _ | assumption | exact Ext.drew' (by assumption) | exact Ext.undrew (by assumption) | exact Ext.back (by first | assumption | exact Ext.drew' (by assumption) | exact Ext.undrew (by assumption)) (by first | exact Below.refl _ _ | assumption | exact Ext.drew' (by assumption) | exact Ext.undrew (by assumption))))))))))).size; omega
  have hn84 : b8 ≠ b4 := by omega
  have hn86 : b8 ≠ b6 := by omega
  have hn87 : b8 ≠ b7 := by omega
  have HH := Lib.hid (And.intro hn84 (And.intro hn86 hn87))
  have HK := Lib.hid hks
  clear hks hzs7 hzs8 hn84 hn86 hn87 h4lt h6lt h7lt
  go_loopw [9] (fun i wr => ∃ k : Nat, k ≤ 64 ∧ i = .int .i64 k ∧ Blk wr b7 62 ((sched bl).map w32).toArray ∧ Blk wr b8 29 ((roundsN ks (sched bl) v k).list.map w32).toArray ∧
    Blk wr b4 29 (v.list.map w32).toArray ∧ Blk wr b6 29 ((zeros 8).map w32).toArray ∧ Ext w wr) (fun i _ => 64 - (intOf i).toNat)
  case atStart => exact ⟨0, by omega, rfl, hB7w, hBs8, hB4w, hB6w, hxw⟩
  case round =>
    obtain ⟨k, hk, rfl, hBw, hBv, hB4r, hB6r, hx⟩ := hrel
    by_cases hlt : k < 64
    · have hd64 : decide ((k : Int) < 64) = true := by simp; omega
      have hKr := HK.out.ext hx
      go_wp2_with fail
      refine wp_region_rel 10 42 Ext (by kernel_rfl) (by kernel_rfl) (by kernel_rfl) rfl rfl (fun _ => Below.refl _ _) (fun _ _ _ => Ext.tr) ?_
      refine r_loadrow Tryd.underlying29 rfl rfl hBv (by simp [hsz29, len8]) ?_
      refine r_move _ rfl (stays_eq _) ?_
      refine r_ixarr Tryd.underlying62 hi28 hs28 rfl rfl rfl (by first | decide | omega) ?_
      refine r_load1 Tryd.underlying28 rfl rfl hBw (at_w32 (by omega)) ?_
      refine r_move _ rfl (stays_eq _) ?_
      refine r_move _ rfl (stays_eq _) ?_
      refine r_index Tryd.underlying27 hi28 hs28 (by rintro _ w hX rfl; exact ⟨_, Sl.extd hKr hX⟩) rfl rfl (at_w32l (by omega)) ?_
      refine r_load Tryd.underlying28 rfl (fun _ _ _ h => h) ?_
      refine r_bin rfl rfl (by intro w; exact Go.Ch.run_add32 _ _ _ _ _ _) ?_
      refine r_callX _ Tryd.func38 (by kernel_rfl) (by kernel_rfl) rfl (fun w hX => refround_c _ (roundsN ks (sched bl) v k) ((sched bl).getD k 0 + ks.getD k 0)) ?_
      intro wR6 hxR6; have gxR6 := hxR6.undrew
      refine Fin_eq ?_
      refine Fin_eq ?_
      refine Fin_eq ?_
      refine Fin_eq ?_
      refine Fin_eq ?_
      refine Fin_eq ?_
      intro v24 h24
      refine Fin_eq ?_
      refine Fin_eq ?_
      refine Fin_eq ?_
      show wpList _ _ _ _ _ _
      simp only [Act.put, List.setIfInBounds_toArray, List.set_cons_succ, List.set_cons_zero, Array.getD_eq_getD_getElem?, List.getElem?_toArray, List.getElem?_cons_succ, List.getElem?_cons_zero, Option.getD_some]
      simp only [List.toList_toArray, List.drop_succ_cons, List.drop_zero]
      have hBq := hBw.ext gxR6
      have hBu := hBv.ext gxR6
      have hB4q := hB4r.ext gxR6
      have hB6q := hB6r.ext gxR6
      have hxq : Ext w wR6 := hx.tr gxR6
      unfold wds
      clear hKr
      go_wp2_with (first
        | ((with_reducible refine g_storeat (n := 8) ?_); refine wpl_storerow rfl rfl hi29 (by simp [hs29, len8]) (words_one _) hBu (by simp [len8]) ?_; intro ws8 hBs8 hgs8 hzs8; try (conv in (Act.put _ _ _) => simp only [Act.put, List.setIfInBounds_toArray, List.set_cons_succ, List.set_cons_zero]))
        | ((with_reducible refine g_at (d := 20) ?_); refine wpl_ixarr rfl rfl Tryd.underlying62 hi28 hs28 rfl (by first | decide | omega) ?_; try (conv in (Act.put _ _ _) => simp only [Act.put, List.setIfInBounds_toArray, List.set_cons_succ, List.set_cons_zero]))
        | ((with_reducible refine g_at (d := 21) ?_); refine wpl_load1 rfl Tryd.underlying28 rfl (Blk.at_ (by first | assumption | exact Blk.back (by first | assumption | exact Ext.drew' (by assumption) | exact Ext.undrew (by assumption)) (by first | assumption | exact Blk.back (by first | assumption | exact Ext.drew' (by assumption) | exact Ext.undrew (by assumption)) (by first | assumption | exact Blk.back (by first | assumption | exact Ext.drew' (by assumption) | exact Ext.undrew (by assumption)) (by first | assumption | exact Blk.back (by first | assumption | exact Ext.drew' (by assumption) | exact Ext.undrew (by assumption)) (by first | assumption | exact Blk.back (by first | assumption | exact Ext.drew' (by assumption) | exact Ext.undrew (by assumption)) (by first | assumption | exact Blk.back (by first | assumption | exact Ext.drew' (by assumption) | exact Ext.undrew (by assumption)) (by first | assumption | exact Blk.back (by first | assumption | exact Ext.drew' (by assumption) | exact Ext.undrew (by assumption)) (by first | assumption | exact Blk.back (by first | assumption | exact Ext.drew' (by assumption) | exact Ext.undrew (by assumption)) (by first | assumption))))))))) (by first | exact at_w32 (by first | decide | omega | (simp <;> omega)) | exact at_b8 (by first | decide | omega | (simp <;> omega)) | rfl)) ?_; try (conv in (Act.put _ _ _) => simp only [Act.put, List.setIfInBounds_toArray, List.set_cons_succ, List.set_cons_zero]))
        | ((with_reducible refine g_at (d := 34) ?_); refine wpl_ixarr rfl rfl Tryd.underlying29 hi28 hs28 rfl (by first | decide | omega) ?_; try (conv in (Act.put _ _ _) => simp only [Act.put, List.setIfInBounds_toArray, List.set_cons_succ, List.set_cons_zero]))
        | ((with_reducible refine g_at (d := 35) ?_); refine wpl_load1 rfl Tryd.underlying28 rfl (Blk.at_ (by first | assumption | exact Blk.back (by first | assumption | exact Ext.drew' (by assumption) | exact Ext.undrew (by assumption)) (by first | assumption | exact Blk.back (by first | assumption | exact Ext.drew' (by assumption) | exact Ext.undrew (by assumption)) (by first | assumption | exact Blk.back (by first | assumption | exact Ext.drew' (by assumption) | exact Ext.undrew (by assumption)) (by first | assumption | exact Blk.back (by first | assumption | exact Ext.drew' (by assumption) | exact Ext.undrew (by assumption)) (by first | assumption | exact Blk.back (by first | assumption | exact Ext.drew' (by assumption) | exact Ext.undrew (by assumption)) (by first | assumption | exact Blk.back (by first | assumption | exact Ext.drew' (by assumption) | exact Ext.undrew (by assumption)) (by first | assumption | exact Blk.back (by first | assumption | exact Ext.drew' (by assumption) | exact Ext.undrew (by assumption)) (by first | assumption | exact Blk.back (by first | assumption | exact Ext.drew' (by assumption) | exact Ext.undrew (by assumption)) (by first | assumption))))))))) (by first | exact at_w32 (by first | decide | omega | (simp <;> omega)) | exact at_b8 (by first | decide | omega | (simp <;> omega)) | rfl)) ?_; try (conv in (Act.put _ _ _) => simp only [Act.put, List.setIfInBounds_toArray, List.set_cons_succ, List.set_cons_zero]))
        | ((with_reducible refine g_at (d := 37) ?_); refine wpl_ixarr rfl rfl Tryd.underlying29 hi28 hs28 rfl (by first | decide | omega) ?_; try (conv in (Act.put _ _ _) => simp only [Act.put, List.setIfInBounds_toArray, List.set_cons_succ, List.set_cons_zero]))
        | ((with_reducible refine g_at (d := 38) ?_); refine wpl_load1 rfl Tryd.underlying28 rfl (Blk.at_ (by first | assumption | exact Blk.back (by first | assumption | exact Ext.drew' (by assumption) | exact Ext.undrew (by assumption)) (by first | assumption | exact Blk.back (by first | assumption | exact Ext.drew' (by assumption) | exact Ext.undrew (by assumption)) (by first | assumption | exact Blk.back (by first | assumption | exact Ext.drew' (by assumption) | exact Ext.undrew (by assumption)) (by first | assumption | exact Blk.back (by first | assumption | exact Ext.drew' (by assumption) | exact Ext.undrew (by assumption)) (by first | assumption | exact Blk.back (by first | assumption | exact Ext.drew' (by assumption) | exact Ext.undrew (by assumption)) (by first | assumption | exact Blk.back (by first | assumption | exact Ext.drew' (by assumption) | exact Ext.undrew (by assumption)) (by first | assumption | exact Blk.back (by first | assumption | exact Ext.drew' (by assumption) | exact Ext.undrew (by assumption)) (by first | assumption | exact Blk.back (by first | assumption | exact Ext.drew' (by assumption) | exact Ext.undrew (by assumption)) (by first | assumption))))))))) (by first | exact at_w32 (by first | decide | omega | (simp <;> omega)) | exact at_b8 (by first | decide | omega | (simp <;> omega)) | rfl)) ?_; try (conv in (Act.put _ _ _) => simp only [Act.put, List.setIfInBounds_toArray, List.set_cons_succ, List.set_cons_zero]))
        | ((with_reducible refine g_at (d := 40) ?_); refine wpl_ixarr rfl rfl Tryd.underlying29 hi28 hs28 rfl (by first | decide | omega) ?_; try (conv in (Act.put _ _ _) => simp only [Act.put, List.setIfInBounds_toArray, List.set_cons_succ, List.set_cons_zero]))
        | ((with_reducible refine g_at (d := 26) ?_); refine wpl_bin rfl rfl (by exact Go.Ch.run_add32 _ _ _ _ _ _) ?_; try (conv in (Act.put _ _ _) => simp only [Act.put, List.setIfInBounds_toArray, List.set_cons_succ, List.set_cons_zero]))
        | ((with_reducible refine g_at (d := 39) ?_); refine wpl_bin rfl rfl (by exact Go.Ch.run_add32 _ _ _ _ _ _) ?_; try (conv in (Act.put _ _ _) => simp only [Act.put, List.setIfInBounds_toArray, List.set_cons_succ, List.set_cons_zero])))
      go_roundw
      case rel =>
        obtain ⟨g1, g2, g3⟩ := HH.out
        exact ⟨k + 1, by omega, by go_num, hBq.grown hgs8 (by simp; omega), hBs8, hB4q.grown hgs8 (by simp; omega), hB6q.grown hgs8 (by simp; omega), hxq.trans (grown_below hgs8 hb8w hxq.size)⟩
      case measure => simp [intOf]; omega
    · obtain rfl : k = 64 := by omega
      generalize hV : roundsN ks (sched bl) v 64 = V at hBv
      have HV := Lib.hid hV
      clear hV
      go_wp2_with fail
      go_loopw [10] (fun i wr => ∃ k : Nat, k ≤ 8 ∧ i = .int .i64 k ∧ Blk wr b8 29 ((addW V v k).map w32).toArray ∧
        Blk wr b4 29 (v.list.map w32).toArray ∧ Blk wr b6 29 ((zeros 8).map w32).toArray ∧ Ext w wr) (fun i _ => 8 - (intOf i).toNat)
      case atStart => exact ⟨0, by omega, rfl, by rw [addW_zero]; exact hBv, hB4r, hB6r, hx⟩
      case round =>
        obtain ⟨k, hk, rfl, hBv, hB4r, hB6r, hx⟩ := hrel
        by_cases hlt : k < 8
        · have hd8 : decide ((k : Int) < 8) = true := by simp; omega
          go_wp2_with fail
          have hlen := length_addW V v k
          refine wp_region_rel 8 42 Ext (by kernel_rfl) (by kernel_rfl) (by kernel_rfl) rfl rfl (fun _ => Below.refl _ _) (fun _ _ _ => Ext.tr) ?_
          refine r_move _ rfl (stays_eq _) ?_
          refine r_move _ rfl (stays_eq _) ?_
          refine r_ixarr Tryd.underlying29 hi28 hs28 rfl rfl rfl (by first | decide | omega) ?_
          refine r_load1 Tryd.underlying28 rfl rfl hBv (at_w32 (by omega)) ?_
          refine r_move _ rfl (stays_eq _) ?_
          refine r_ixarr Tryd.underlying29 hi28 hs28 rfl rfl rfl (by first | decide | omega) ?_
          refine r_load1 Tryd.underlying28 rfl rfl hB4r (at_w32 (by rw [len8]; omega)) ?_
          refine r_bin rfl rfl (by intro w; exact Go.Ch.run_add32 _ _ _ _ _ _) ?_
          intro wR10 hxR10; have gxR10 := hxR10.undrew
          refine Fin_eq ?_
          refine Fin_eq ?_
          refine Fin_eq ?_
          refine Fin_eq ?_
          refine Fin_eq ?_
          refine Fin_eq ?_
          refine Fin_eq ?_
          refine Fin_eq ?_
          show wpList _ _ _ _ _ _
          simp only [Act.put, List.setIfInBounds_toArray, List.set_cons_succ, List.set_cons_zero, Array.getD_eq_getD_getElem?, List.getElem?_toArray, List.getElem?_cons_succ, List.getElem?_cons_zero, Option.getD_some]
          simp only [List.toList_toArray, List.drop_succ_cons, List.drop_zero]
          have hBu := hBv.ext gxR10
          have hB4q := hB4r.ext gxR10
          have hB6q := hB6r.ext gxR10
          have hxq : Ext w wR10 := hx.tr gxR10
          go_wp2_with (first
            | ((with_reducible refine g_storeat (n := 40) ?_); refine wpl_store1 rfl rfl hi28 hs28 rfl rfl hBu (by simp [hlen]; omega) ?_; intro ws40 hBs40 hgs40 hzs40; (try simp only [Act.eval, Array.getD_eq_getD_getElem?, List.getElem?_toArray, List.getElem?_cons_succ, List.getElem?_cons_zero, Option.getD_some] at hBs40); (try simp only [← List.getD_eq_getElem?_getD] at hBs40); try (conv in (Act.put _ _ _) => simp only [Act.put, List.setIfInBounds_toArray, List.set_cons_succ, List.set_cons_zero]))
            | ((with_reducible refine g_at (d := 20) ?_); refine wpl_ixarr rfl rfl Tryd.underlying62 hi28 hs28 rfl (by first | decide | omega) ?_; try (conv in (Act.put _ _ _) => simp only [Act.put, List.setIfInBounds_toArray, List.set_cons_succ, List.set_cons_zero]))
            | ((with_reducible refine g_at (d := 21) ?_); refine wpl_load1 rfl Tryd.underlying28 rfl (Blk.at_ (by first | assumption | exact Blk.back (by first | assumption | exact Ext.drew' (by assumption) | exact Ext.undrew (by assumption)) (by first | assumption | exact Blk.back (by first | assumption | exact Ext.drew' (by assumption) | exact Ext.undrew (by assumption)) (by first | assumption | exact Blk.back (by first | assumption | exact Ext.drew' (by assumption) | exact Ext.undrew (by assumption)) (by first | assumption | exact Blk.back (by first | assumption | exact Ext.drew' (by assumption) | exact Ext.undrew (by assumption)) (by first | assumption | exact Blk.back (by first | assumption | exact Ext.drew' (by assumption) | exact Ext.undrew (by assumption)) (by first | assumption | exact Blk.back (by first | assumption | exact Ext.drew' (by assumption) | exact Ext.undrew (by assumption)) (by first | assumption | exact Blk.back (by first | assumption | exact Ext.drew' (by assumption) | exact Ext.undrew (by assumption)) (by first | assumption | exact Blk.back (by first | assumption | exact Ext.drew' (by assumption) | exact Ext.undrew (by assumption)) (by first | assumption))))))))) (by first | exact at_w32 (by first | decide | omega | (simp <;> omega)) | exact at_b8 (by first | decide | omega | (simp <;> omega)) | rfl)) ?_; try (conv in (Act.put _ _ _) => simp only [Act.put, List.setIfInBounds_toArray, List.set_cons_succ, List.set_cons_zero]))
            | ((with_reducible refine g_at (d := 34) ?_); refine wpl_ixarr rfl rfl Tryd.underlying29 hi28 hs28 rfl (by first | decide | omega) ?_; try (conv in (Act.put _ _ _) => simp only [Act.put, List.setIfInBounds_toArray, List.set_cons_succ, List.set_cons_zero]))
            | ((with_reducible refine g_at (d := 35) ?_); refine wpl_load1 rfl Tryd.underlying28 rfl (Blk.at_ (by first | assumption | exact Blk.back (by first | assumption | exact Ext.drew' (by assumption) | exact Ext.undrew (by assumption)) (by first | assumption | exact Blk.back (by first | assumption | exact Ext.drew' (by assumption) | exact Ext.undrew (by assumption)) (by first | assumption | exact Blk.back (by first | assumption | exact Ext.drew' (by assumption) | exact Ext.undrew (by assumption)) (by first | assumption | exact Blk.back (by first | assumption | exact Ext.drew' (by assumption) | exact Ext.undrew (by assumption)) (by first | assumption | exact Blk.back (by first | assumption | exact Ext.drew' (by assumption) | exact Ext.undrew (by assumption)) (by first | assumption | exact Blk.back (by first | assumption | exact Ext.drew' (by assumption) | exact Ext.undrew (by assumption)) (by first | assumption | exact Blk.back (by first | assumption | exact Ext.drew' (by assumption) | exact Ext.undrew (by assumption)) (by first | assumption | exact Blk.back (by first | assumption | exact Ext.drew' (by assumption) | exact Ext.undrew (by assumption)) (by first | assumption))))))))) (by first | exact at_w32 (by first | decide | omega | (simp <;> omega)) | exact at_b8 (by first | decide | omega | (simp <;> omega)) | rfl)) ?_; try (conv in (Act.put _ _ _) => simp only [Act.put, List.setIfInBounds_toArray, List.set_cons_succ, List.set_cons_zero]))
            | ((with_reducible refine g_at (d := 37) ?_); refine wpl_ixarr rfl rfl Tryd.underlying29 hi28 hs28 rfl (by first | decide | omega) ?_; try (conv in (Act.put _ _ _) => simp only [Act.put, List.setIfInBounds_toArray, List.set_cons_succ, List.set_cons_zero]))
            | ((with_reducible refine g_at (d := 38) ?_); refine wpl_load1 rfl Tryd.underlying28 rfl (Blk.at_ (by first | assumption | exact Blk.back (by first | assumption | exact Ext.drew' (by assumption) | exact Ext.undrew (by assumption)) (by first | assumption | exact Blk.back (by first | assumption | exact Ext.drew' (by assumption) | exact Ext.undrew (by assumption)) (by first | assumption | exact Blk.back (by first | assumption | exact Ext.drew' (by assumption) | exact Ext.undrew (by assumption)) (by first | assumption | exact Blk.back (by first | assumption | exact Ext.drew' (by assumption) | exact Ext.undrew (by assumption)) (by first | assumption | exact Blk.back (by first | assumption | exact Ext.drew' (by assumption) | exact Ext.undrew (by assumption)) (by first | assumption | exact Blk.back (by first | assumption | exact Ext.drew' (by assumption) | exact Ext.undrew (by assumption)) (by first | assumption | exact Blk.back (by first | assumption | exact Ext.drew' (by assumption) | exact Ext.undrew (by assumption)) (by first | assumption | exact Blk.back (by first | assumption | exact Ext.drew' (by assumption) | exact Ext.undrew (by assumption)) (by first | assumption))))))))) (by first | exact at_w32 (by first | decide | omega | (simp <;> omega)) | exact at_b8 (by first | decide | omega | (simp <;> omega)) | rfl)) ?_; try (conv in (Act.put _ _ _) => simp only [Act.put, List.setIfInBounds_toArray, List.set_cons_succ, List.set_cons_zero]))
            | ((with_reducible refine g_at (d := 40) ?_); refine wpl_ixarr rfl rfl Tryd.underlying29 hi28 hs28 rfl (by first | decide | omega) ?_; try (conv in (Act.put _ _ _) => simp only [Act.put, List.setIfInBounds_toArray, List.set_cons_succ, List.set_cons_zero]))
            | ((with_reducible refine g_at (d := 26) ?_); refine wpl_bin rfl rfl (by exact Go.Ch.run_add32 _ _ _ _ _ _) ?_; try (conv in (Act.put _ _ _) => simp only [Act.put, List.setIfInBounds_toArray, List.set_cons_succ, List.set_cons_zero]))
            | ((with_reducible refine g_at (d := 39) ?_); refine wpl_bin rfl rfl (by exact Go.Ch.run_add32 _ _ _ _ _ _) ?_; try (conv in (Act.put _ _ _) => simp only [Act.put, List.setIfInBounds_toArray, List.set_cons_succ, List.set_cons_zero])))
          go_roundw
          case rel =>
            obtain ⟨g1, g2, g3⟩ := HH.out
            rw [set_w32, addW_step _ _ _ hlt] at hBs40
            exact ⟨k + 1, by omega, by go_num, hBs40, hB4q.grown hgs40 (by simp; omega), hB6q.grown hgs40 (by simp; omega), hxq.trans (grown_below hgs40 hb8w hxq.size)⟩
          case measure => simp [intOf]; omega
        · obtain rfl : k = 8 := by omega
          rw [addW_all] at hBv
          go_wp2_with (first
            | ((with_reducible refine g_at (d := 41) ?_); refine wpl_loadrow (cs := ((addWords V v).list.map w32).toArray) (t' := 29) rfl hBv Tryd.underlying29 rfl (by simp [hsz29, len8]) ?_; try (conv in (Act.put _ _ _) => simp only [Act.put, List.setIfInBounds_toArray, List.set_cons_succ, List.set_cons_zero]))
            | ((with_reducible refine g_storeat (n := 6) ?_); refine wpl_storerow rfl rfl hi29 (by simp [hs29, len8]) (words_one _) hB6r (by simp [zeros, len8]) ?_; intro ws6 hBs6 hgs6 hzs6; try (conv in (Act.put _ _ _) => simp only [Act.put, List.setIfInBounds_toArray, List.set_cons_succ, List.set_cons_zero]))
            | ((with_reducible refine g_at (d := 20) ?_); refine wpl_ixarr rfl rfl Tryd.underlying62 hi28 hs28 rfl (by first | decide | omega) ?_; try (conv in (Act.put _ _ _) => simp only [Act.put, List.setIfInBounds_toArray, List.set_cons_succ, List.set_cons_zero]))
            | ((with_reducible refine g_at (d := 21) ?_); refine wpl_load1 rfl Tryd.underlying28 rfl (Blk.at_ (by first | assumption | exact Blk.back (by first | assumption | exact Ext.drew' (by assumption) | exact Ext.undrew (by assumption)) (by first | assumption | exact Blk.back (by first | assumption | exact Ext.drew' (by assumption) | exact Ext.undrew (by assumption)) (by first | assumption | exact Blk.back (by first | assumption | exact Ext.drew' (by assumption) | exact Ext.undrew (by assumption)) (by first | assumption | exact Blk.back (by first | assumption | exact Ext.drew' (by assumption) | exact Ext.undrew (by assumption)) (by first | assumption | exact Blk.back (by first | assumption | exact Ext.drew' (by assumption) | exact Ext.undrew (by assumption)) (by first | assumption | exact Blk.back (by first | assumption | exact Ext.drew' (by assumption) | exact Ext.undrew (by assumption)) (by first | assumption | exact Blk.back (by first | assumption | exact Ext.drew' (by assumption) | exact Ext.undrew (by assumption)) (by first | assumption | exact Blk.back (by first | assumption | exact Ext.drew' (by assumption) | exact Ext.undrew (by assumption)) (by first | assumption))))))))) (by first | exact at_w32 (by first | decide | omega | (simp <;> omega)) | exact at_b8 (by first | decide | omega | (simp <;> omega)) | rfl)) ?_; try (conv in (Act.put _ _ _) => simp only [Act.put, List.setIfInBounds_toArray, List.set_cons_succ, List.set_cons_zero]))
            | ((with_reducible refine g_at (d := 34) ?_); refine wpl_ixarr rfl rfl Tryd.underlying29 hi28 hs28 rfl (by first | decide | omega) ?_; try (conv in (Act.put _ _ _) => simp only [Act.put, List.setIfInBounds_toArray, List.set_cons_succ, List.set_cons_zero]))
            | ((with_reducible refine g_at (d := 35) ?_); refine wpl_load1 rfl Tryd.underlying28 rfl (Blk.at_ (by first | assumption | exact Blk.back (by first | assumption | exact Ext.drew' (by assumption) | exact Ext.undrew (by assumption)) (by first | assumption | exact Blk.back (by first | assumption | exact Ext.drew' (by assumption) | exact Ext.undrew (by assumption)) (by first | assumption | exact Blk.back (by first | assumption | exact Ext.drew' (by assumption) | exact Ext.undrew (by assumption)) (by first | assumption | exact Blk.back (by first | assumption | exact Ext.drew' (by assumption) | exact Ext.undrew (by assumption)) (by first | assumption | exact Blk.back (by first | assumption | exact Ext.drew' (by assumption) | exact Ext.undrew (by assumption)) (by first | assumption | exact Blk.back (by first | assumption | exact Ext.drew' (by assumption) | exact Ext.undrew (by assumption)) (by first | assumption | exact Blk.back (by first | assumption | exact Ext.drew' (by assumption) | exact Ext.undrew (by assumption)) (by first | assumption | exact Blk.back (by first | assumption | exact Ext.drew' (by assumption) | exact Ext.undrew (by assumption)) (by first | assumption))))))))) (by first | exact at_w32 (by first | decide | omega | (simp <;> omega)) | exact at_b8 (by first | decide | omega | (simp <;> omega)) | rfl)) ?_; try (conv in (Act.put _ _ _) => simp only [Act.put, List.setIfInBounds_toArray, List.set_cons_succ, List.set_cons_zero]))
            | ((with_reducible refine g_at (d := 37) ?_); refine wpl_ixarr rfl rfl Tryd.underlying29 hi28 hs28 rfl (by first | decide | omega) ?_; try (conv in (Act.put _ _ _) => simp only [Act.put, List.setIfInBounds_toArray, List.set_cons_succ, List.set_cons_zero]))
            | ((with_reducible refine g_at (d := 38) ?_); refine wpl_load1 rfl Tryd.underlying28 rfl (Blk.at_ (by first | assumption | exact Blk.back (by first | assumption | exact Ext.drew' (by assumption) | exact Ext.undrew (by assumption)) (by first | assumption | exact Blk.back (by first | assumption | exact Ext.drew' (by assumption) | exact Ext.undrew (by assumption)) (by first | assumption | exact Blk.back (by first | assumption | exact Ext.drew' (by assumption) | exact Ext.undrew (by assumption)) (by first | assumption | exact Blk.back (by first | assumption | exact Ext.drew' (by assumption) | exact Ext.undrew (by assumption)) (by first | assumption | exact Blk.back (by first | assumption | exact Ext.drew' (by assumption) | exact Ext.undrew (by assumption)) (by first | assumption | exact Blk.back (by first | assumption | exact Ext.drew' (by assumption) | exact Ext.undrew (by assumption)) (by first | assumption | exact Blk.back (by first | assumption | exact Ext.drew' (by assumption) | exact Ext.undrew (by assumption)) (by first | assumption | exact Blk.back (by first | assumption | exact Ext.drew' (by assumption) | exact Ext.undrew (by assumption)) (by first | assumption))))))))) (by first | exact at_w32 (by first | decide | omega | (simp <;> omega)) | exact at_b8 (by first | decide | omega | (simp <;> omega)) | rfl)) ?_; try (conv in (Act.put _ _ _) => simp only [Act.put, List.setIfInBounds_toArray, List.set_cons_succ, List.set_cons_zero]))
            | ((with_reducible refine g_at (d := 40) ?_); refine wpl_ixarr rfl rfl Tryd.underlying29 hi28 hs28 rfl (by first | decide | omega) ?_; try (conv in (Act.put _ _ _) => simp only [Act.put, List.setIfInBounds_toArray, List.set_cons_succ, List.set_cons_zero]))
            | ((with_reducible refine g_at (d := 26) ?_); refine wpl_bin rfl rfl (by exact Go.Ch.run_add32 _ _ _ _ _ _) ?_; try (conv in (Act.put _ _ _) => simp only [Act.put, List.setIfInBounds_toArray, List.set_cons_succ, List.set_cons_zero]))
            | ((with_reducible refine g_at (d := 39) ?_); refine wpl_bin rfl rfl (by exact Go.Ch.run_add32 _ _ _ _ _ _) ?_; try (conv in (Act.put _ _ _) => simp only [Act.put, List.setIfInBounds_toArray, List.set_cons_succ, List.set_cons_zero])))
          exact bodyPost_ret (results_cell_row rfl _ _ _ _ _ _ _ rfl hBs6 Tryd.underlying29 rfl (by simp [hsz29, len8])) rfl ⟨_, rfl, hx.trans (grown_below hgs6 hb6w hx.size), by rw [← HV.out]; rfl⟩
end Go.Proofs.YtamddohbpdbdmaaDoor
end
section
set_option linter.unusedVariables false
set_option linter.unusedSimpArgs false
namespace Go.Proofs.YtamddohbpdbdmaaDoor
open Go.RowKit Go.Ch
theorem run_shri {P : Program} (t : TypeId) (ex ey : Operand) (k : IntKind) (m i : Nat) (hi : i < 64) (w : World) : binRun P .shr t ex ey (.int .i64 (m : Int)) (.int k (i : Int)) w = .ok (.int .i64 ((m / 2 ^ i : Nat) : Int)) w := by
  simp only [binRun, Sem.run_bind, guard_int, Result.andThen_ok]
  have h1 : min i 64 = i := by omega
  simp only [binOp, Op.shift, if_neg (show ¬ ((i : Int) < 0) by omega), Sem.run_pure, Int.toNat_natCast, show IntKind.i64.bits = 64 from rfl, h1]
  congr 2
  have e : ((2 : Int) ^ i) = ((2 ^ i : Nat) : Int) := by simp
  rw [e, Int.fdiv_eq_ediv_of_nonneg _ (Int.natCast_nonneg _)]
  rfl
def tl (j : Nat) : List UInt8 := [128] ++ List.replicate j 0
theorem length_tl (j : Nat) : (tl j).length = j + 1 := by simp [tl]
theorem tl_succ (j : Nat) : tl j ++ [0] = tl (j + 1) := by simp [tl, List.replicate_succ']
theorem length_lenB (n : Nat) : (lenB n).length = 8 := by simp [lenB]
theorem lenB_get (n k : Nat) (h : k < 8) : (lenB n)[k]? = some (UInt8.ofNat (8 * n / 2 ^ (56 - 8 * k))) := by
  unfold lenB
  rw [List.getElem?_map, List.getElem?_range h]; rfl
theorem tail_succ (z n k : Nat) (h : k < 8) : tl z ++ (lenB n).take k ++ [UInt8.ofNat (8 * n / 2 ^ (56 - 8 * k))] = tl z ++ (lenB n).take (k + 1) := by
  have hl : k < (lenB n).length := by rw [length_lenB]; exact h
  rw [List.append_assoc, List.take_succ_eq_append_getElem hl]
  have := lenB_get n k h
  rw [List.getElem?_eq_getElem hl] at this
  injection this with this
  rw [this]
theorem tail_done (n : Nat) : tl ((119 - n % 64) % 64) ++ (lenB n).take 8 = tailOf n := by
  rw [List.take_of_length_le (by rw [length_lenB]; omega)]; rfl
set_option maxRecDepth 100000 in
set_option maxHeartbeats 4000000 in
theorem tail_c (w : World) (n : Nat) (h : n ≤ 281474976710656) :
    Calls Tryd.prog 27 #[.int .i64 n] w (Ret fun v' w' => Ext w w' ∧ ∃ v1, v' = .tuple #[v1, .nilIface] ∧ Own w' w.heap.size 5 v1 ((tailOf n).map bU)) := by
  obtain ⟨i5, hi5, hz5, hs5, hb5⟩ := info_parts infoU8
  have hsz5 := info_size infoU8
  have h1 : ¬ (n : Int) < 0 := by omega
  have h2 : ¬ (n : Int) > 281474976710656 := by omega
  generalize hz : (119 - n % 64) % 64 = z
  go_enter Tryd.func27, Tryd.ntmps27
  go_wp2_with (first
    | ((with_reducible refine g_at (d := 13) ?_); refine wpl_buildSlice (vs := [bU 128]) Tryd.underlying22 hi5 hz5 hs5 rfl (xs := [(.const (.int .u8 128))]) rfl rfl rfl (by intro u hu; simp at hu; subst hu; rfl) (by omega) ?_; intro v13 w13 h13 hx13 ha13; try (conv in (Act.put _ _ _) => simp only [Act.put, List.setIfInBounds_toArray, List.set_cons_succ, List.set_cons_zero]))
    | ((with_reducible refine g_at (d := 16) ?_); refine wpl_len rfl Tryd.underlying22 (by first | assumption | exact Own.sl (by assumption) | exact Sl.back (by first | assumption | exact Ext.drew' (by assumption) | exact Ext.undrew (by assumption)) (by first | assumption | exact Own.sl (by assumption) | exact Sl.back (by first | assumption | exact Ext.drew' (by assumption) | exact Ext.undrew (by assumption)) (by first | assumption | exact Own.sl (by assumption) | exact Sl.back (by first | assumption | exact Ext.drew' (by assumption) | exact Ext.undrew (by assumption)) (by first | assumption | exact Own.sl (by assumption) | exact Sl.back (by first | assumption | exact Ext.drew' (by assumption) | exact Ext.undrew (by assumption)) (by first | assumption | exact Own.sl (by assumption) | exact Sl.back (by first | assumption | exact Ext.drew' (by assumption) | exact Ext.undrew (by assumption)) (by first | assumption | exact Own.sl (by assumption) | exact Sl.back (by first | assumption | exact Ext.drew' (by assumption) | exact Ext.undrew (by assumption)) (by first | assumption | exact Own.sl (by assumption) | exact Sl.back (by first | assumption | exact Ext.drew' (by assumption) | exact Ext.undrew (by assumption)) (by first | assumption | exact Own.sl (by assumption))))))))) (by first | rw [List.length_map] | rfl) ?_; try (conv in (Act.put _ _ _) => simp only [Act.put, List.setIfInBounds_toArray, List.set_cons_succ, List.set_cons_zero]))
    | ((with_reducible refine g_at (d := 22) ?_); refine wpl_buildSlice (vs := [bU 0]) Tryd.underlying22 hi5 hz5 hs5 rfl (xs := [(.const (.int .u8 0))]) rfl rfl rfl (by intro u hu; simp at hu; subst hu; rfl) (by omega) ?_; intro v22 w22 h22 hx22 ha22; try (conv in (Act.put _ _ _) => simp only [Act.put, List.setIfInBounds_toArray, List.set_cons_succ, List.set_cons_zero])))
  go_loopw [4] (fun o wr => ∃ j : Nat, j ≤ z ∧ Own wr w.heap.size 5 o ((tl j).map bU) ∧ Ext w wr) (fun o _ => 100 - slen o)
  case atStart => exact ⟨0, by omega, h13, hx13⟩
  case round =>
    obtain ⟨j, hj, ho, hx⟩ := hrel
    have hlen := length_tl j
    have hsl : slen u4 = j + 1 := by rw [ho.slen]; simp [hlen]
    by_cases hlt : j < z
    · have ht : ¬ ((n : Int) + (j + 1) + 8) % 64 = 0 := by omega
      go_wp2_with (first
        | ((with_reducible refine g_at (d := 16) ?_); refine wpl_len rfl Tryd.underlying22 ho.sl (by first | rw [List.length_map] | rfl) ?_; try (conv in (Act.put _ _ _) => simp only [Act.put, List.setIfInBounds_toArray, List.set_cons_succ, List.set_cons_zero]))
        | ((with_reducible refine g_at (d := 22) ?_); refine wpl_buildSlice (vs := [bU 0]) Tryd.underlying22 hi5 hz5 hs5 rfl (xs := [(.const (.int .u8 0))]) rfl rfl rfl (by intro u hu; simp at hu; subst hu; rfl) (by omega) ?_; intro v22 w22 h22 hx22 ha22; try (conv in (Act.put _ _ _) => simp only [Act.put, List.setIfInBounds_toArray, List.set_cons_succ, List.set_cons_zero]))
        | ((with_reducible refine g_at (d := 23) ?_); refine wpl_append (v := u4) rfl rfl Tryd.underlying22 hi5 hz5 hs5 hb5 rfl (ho.ext hx22) h22.sl (bU_one [0]) (by first | omega | (simp <;> omega)) (by omega) (Nat.le_trans hx.size hx22.size) ?_; intro v23 w23 h23 hg23 ha23 hx23; try (conv in (Act.put _ _ _) => simp only [Act.put, List.setIfInBounds_toArray, List.set_cons_succ, List.set_cons_zero]))
        | ((with_reducible refine g_at (d := 13) ?_); refine wpl_buildSlice (vs := [bU 128]) Tryd.underlying22 hi5 hz5 hs5 rfl (xs := [(.const (.int .u8 128))]) rfl rfl rfl (by intro u hu; simp at hu; subst hu; rfl) (by omega) ?_; intro v13 w13 h13 hx13 ha13; try (conv in (Act.put _ _ _) => simp only [Act.put, List.setIfInBounds_toArray, List.set_cons_succ, List.set_cons_zero])))
      go_roundw
      case rel =>
        refine ⟨j + 1, by omega, ?_, (hx.tr hx22).trans hx23⟩
        rw [← tl_succ, List.map_append]; exact h23
      case measure => rw [h23.slen, hsl]; simp [hlen]; omega
    · obtain rfl : j = z := by omega
      have ht : ((n : Int) + (j + 1) + 8) % 64 = 0 := by omega
      go_wp2_with (first
        | ((with_reducible refine g_at (d := 16) ?_); refine wpl_len rfl Tryd.underlying22 ho.sl (by first | rw [List.length_map] | rfl) ?_; try (conv in (Act.put _ _ _) => simp only [Act.put, List.setIfInBounds_toArray, List.set_cons_succ, List.set_cons_zero]))
        | ((with_reducible refine g_at (d := 13) ?_); refine wpl_buildSlice (vs := [bU 128]) Tryd.underlying22 hi5 hz5 hs5 rfl (xs := [(.const (.int .u8 128))]) rfl rfl rfl (by intro u hu; simp at hu; subst hu; rfl) (by omega) ?_; intro v13 w13 h13 hx13 ha13; try (conv in (Act.put _ _ _) => simp only [Act.put, List.setIfInBounds_toArray, List.set_cons_succ, List.set_cons_zero]))
        | ((with_reducible refine g_at (d := 22) ?_); refine wpl_buildSlice (vs := [bU 0]) Tryd.underlying22 hi5 hz5 hs5 rfl (xs := [(.const (.int .u8 0))]) rfl rfl rfl (by intro u hu; simp at hu; subst hu; rfl) (by omega) ?_; intro v22 w22 h22 hx22 ha22; try (conv in (Act.put _ _ _) => simp only [Act.put, List.setIfInBounds_toArray, List.set_cons_succ, List.set_cons_zero])))
      go_loopw [5, 4] (fun i o wr => ∃ k : Nat, k ≤ 8 ∧ i = .int .i64 (56 - 8 * (k : Int)) ∧ Own wr w.heap.size 5 o ((tl j ++ (lenB n).take k).map bU) ∧ Ext w wr) (fun i _ _ => (intOf i + 8).toNat)
      case atStart => exact ⟨0, by omega, rfl, by simpa using ho, hx⟩
      case round =>
        obtain ⟨k, hk, rfl, ho, hx⟩ := hrel
        have hlen2 : ((lenB n).take k).length = k := by rw [List.length_take, length_lenB]; omega
        by_cases hlt : k < 8
        · go_wp2_with (first
            | ((with_reducible refine g_at (d := 32) ?_); refine wpl_bin rfl rfl (by rw [show (8 * (n : Int)) = ((8 * n : Nat) : Int) by omega, show (56 - 8 * (k : Int)) = ((56 - 8 * k : Nat) : Int) by omega]; exact run_shri _ _ _ _ (8 * n) (56 - 8 * k) (by omega) _) ?_; try (conv in (Act.put _ _ _) => simp only [Act.put, List.setIfInBounds_toArray, List.set_cons_succ, List.set_cons_zero]))
            | ((with_reducible refine g_at (d := 33) ?_); refine wpl_conv rfl (by exact conv_nb Tryd.underlying3 Tryd.underlying5 _ _) ?_; try (conv in (Act.put _ _ _) => simp only [Act.put, List.setIfInBounds_toArray, List.set_cons_succ, List.set_cons_zero]))
            | ((with_reducible refine g_at (d := 34) ?_); refine wpl_buildSlice (vs := [bU (UInt8.ofNat (8 * n / 2 ^ (56 - 8 * k)))]) Tryd.underlying22 hi5 hz5 hs5 rfl (xs := [(.tmp 33)]) rfl rfl rfl (by intro u hu; simp at hu; subst hu; rfl) (by omega) ?_; intro v34 w34 h34 hx34 ha34; try (conv in (Act.put _ _ _) => simp only [Act.put, List.setIfInBounds_toArray, List.set_cons_succ, List.set_cons_zero]))
            | ((with_reducible refine g_at (d := 35) ?_); refine wpl_append (v := u4) rfl rfl Tryd.underlying22 hi5 hz5 hs5 hb5 rfl (ho.ext hx34) h34.sl (bU_one [UInt8.ofNat (8 * n / 2 ^ (56 - 8 * k))]) (by first | omega | (simp <;> omega)) (by omega) (Nat.le_trans hx.size hx34.size) ?_; intro v35 w35 h35 hg35 ha35 hx35; try (conv in (Act.put _ _ _) => simp only [Act.put, List.setIfInBounds_toArray, List.set_cons_succ, List.set_cons_zero]))
            | ((with_reducible refine g_at (d := 13) ?_); refine wpl_buildSlice (vs := [bU 128]) Tryd.underlying22 hi5 hz5 hs5 rfl (xs := [(.const (.int .u8 128))]) rfl rfl rfl (by intro u hu; simp at hu; subst hu; rfl) (by omega) ?_; intro v13 w13 h13 hx13 ha13; try (conv in (Act.put _ _ _) => simp only [Act.put, List.setIfInBounds_toArray, List.set_cons_succ, List.set_cons_zero]))
            | ((with_reducible refine g_at (d := 16) ?_); refine wpl_len rfl Tryd.underlying22 (by first | assumption | exact Own.sl (by assumption) | exact Sl.back (by first | assumption | exact Ext.drew' (by assumption) | exact Ext.undrew (by assumption)) (by first | assumption | exact Own.sl (by assumption) | exact Sl.back (by first | assumption | exact Ext.drew' (by assumption) | exact Ext.undrew (by assumption)) (by first | assumption | exact Own.sl (by assumption) | exact Sl.back (by first | assumption | exact Ext.drew' (by assumption) | exact Ext.undrew (by assumption)) (by first | assumption | exact Own.sl (by assumption) | exact Sl.back (by first | assumption | exact Ext.drew' (by assumption) | exact Ext.undrew (by assumption)) (by first | assumption | exact Own.sl (by assumption) | exact Sl.back (by first | assumption | exact Ext.drew' (by assumption) | exact Ext.undrew (by assumption)) (by first | assumption | exact Own.sl (by assumption) | exact Sl.back (by first | assumption | exact Ext.drew' (by assumption) | exact Ext.undrew (by assumption)) (by first | assumption | exact Own.sl (by assumption) | exact Sl.back (by first | assumption | exact Ext.drew' (by assumption) | exact Ext.undrew (by assumption)) (by first | assumption | exact Own.sl (by assumption))))))))) (by first | rw [List.length_map] | rfl) ?_; try (conv in (Act.put _ _ _) => simp only [Act.put, List.setIfInBounds_toArray, List.set_cons_succ, List.set_cons_zero]))
            | ((with_reducible refine g_at (d := 22) ?_); refine wpl_buildSlice (vs := [bU 0]) Tryd.underlying22 hi5 hz5 hs5 rfl (xs := [(.const (.int .u8 0))]) rfl rfl rfl (by intro u hu; simp at hu; subst hu; rfl) (by omega) ?_; intro v22 w22 h22 hx22 ha22; try (conv in (Act.put _ _ _) => simp only [Act.put, List.setIfInBounds_toArray, List.set_cons_succ, List.set_cons_zero])))
          go_roundw
          case rel =>
            refine ⟨k + 1, by omega, by go_num, ?_, (hx.tr hx34).trans hx35⟩
            rw [← tail_succ _ _ _ hlt, List.map_append]; exact h35
          case measure => simp [intOf]; omega
        · obtain rfl : k = 8 := by omega
          rw [← hz, tail_done] at ho
          go_wp2
          go_ret2
          exact ⟨_, rfl, hx, _, rfl, ho⟩
def half (n k : Nat) : List UInt8 := List.replicate (8 - k) 0 ++ (lenB n).drop (8 - k)
theorem length_half (n k : Nat) (h : k ≤ 8) : (half n k).length = 8 := by simp [half, length_lenB] <;> omega
theorem half_zero (n : Nat) : half n 0 = List.replicate 8 0 := by
  unfold half
  rw [List.drop_of_length_le (by rw [length_lenB]; omega)]; rfl
theorem half_all (n : Nat) : half n 8 = lenB n := rfl
theorem half_step (n k : Nat) (h : k < 8) : (half n k).set (7 - k) (UInt8.ofNat (8 * n / 256 ^ k % 256)) = half n (k + 1) := by
  unfold half
  have e : 8 - k = (7 - k) + 1 := by omega
  have hl : 7 - k < (lenB n).length := by rw [length_lenB]; omega
  have e2 : (8 - (k + 1)) = 7 - k := by omega
  rw [e2, e, List.replicate_succ', List.append_assoc, List.set_append_right _ _ (by simp)]
  have e3 := lenB_get n (7 - k) (by omega)
  rw [List.getElem?_eq_getElem hl] at e3
  injection e3 with e3
  rw [List.drop_eq_getElem_cons hl, e3]
  simp only [List.length_replicate, Nat.sub_self, List.cons_append, List.nil_append, List.set_cons_zero, List.append_cancel_left_eq, List.cons.injEq, and_true]
  have e4 : 56 - 8 * (7 - k) = 8 * k := by omega
  rw [e4, show (256 : Nat) ^ k = 2 ^ (8 * k) by rw [Nat.pow_mul]]
  apply UInt8.toNat_inj.1
  simp
set_option maxRecDepth 100000 in
set_option maxHeartbeats 4000000 in
theorem reftail_c (w : World) (n : Nat) (h : n ≤ 281474976710656) :
    Calls Tryd.prog 31 #[.int .i64 n] w (Ret fun v' w' => Ext w w' ∧ Own w' w.heap.size 5 v' ((tailOf n).map bU)) := by
  obtain ⟨i5, hi5, hz5, hs5, hb5⟩ := info_parts infoU8
  have hsz5 := info_size infoU8
  generalize hz : (119 - n % 64) % 64 = z
  go_enter Tryd.func31, Tryd.ntmps31
  go_wp2_with (first
    | ((with_reducible refine g_at (d := 7) ?_); refine wpl_buildSlice (vs := [bU 128]) Tryd.underlying22 hi5 hz5 hs5 rfl (xs := [(.const (.int .u8 128))]) rfl rfl rfl (by intro u hu; simp at hu; subst hu; rfl) (by omega) ?_; intro v7 w7 h7 hx7 ha7; try (conv in (Act.put _ _ _) => simp only [Act.put, List.setIfInBounds_toArray, List.set_cons_succ, List.set_cons_zero]))
    | ((with_reducible refine g_at (d := 10) ?_); refine wpl_len rfl Tryd.underlying22 (by first | assumption | exact Own.sl (by assumption) | exact Sl.back (by first | assumption | exact Ext.drew' (by assumption) | exact Ext.undrew (by assumption)) (by first | assumption | exact Own.sl (by assumption) | exact Sl.back (by first | assumption | exact Ext.drew' (by assumption) | exact Ext.undrew (by assumption)) (by first | assumption | exact Own.sl (by assumption) | exact Sl.back (by first | assumption | exact Ext.drew' (by assumption) | exact Ext.undrew (by assumption)) (by first | assumption | exact Own.sl (by assumption) | exact Sl.back (by first | assumption | exact Ext.drew' (by assumption) | exact Ext.undrew (by assumption)) (by first | assumption | exact Own.sl (by assumption) | exact Sl.back (by first | assumption | exact Ext.drew' (by assumption) | exact Ext.undrew (by assumption)) (by first | assumption | exact Own.sl (by assumption) | exact Sl.back (by first | assumption | exact Ext.drew' (by assumption) | exact Ext.undrew (by assumption)) (by first | assumption | exact Own.sl (by assumption) | exact Sl.back (by first | assumption | exact Ext.drew' (by assumption) | exact Ext.undrew (by assumption)) (by first | assumption | exact Own.sl (by assumption))))))))) (by first | rw [List.length_map] | rfl) ?_; try (conv in (Act.put _ _ _) => simp only [Act.put, List.setIfInBounds_toArray, List.set_cons_succ, List.set_cons_zero]))
    | ((with_reducible refine g_at (d := 16) ?_); refine wpl_buildSlice (vs := [bU 0]) Tryd.underlying22 hi5 hz5 hs5 rfl (xs := [(.const (.int .u8 0))]) rfl rfl rfl (by intro u hu; simp at hu; subst hu; rfl) (by omega) ?_; intro v16 w16 h16 hx16 ha16; try (conv in (Act.put _ _ _) => simp only [Act.put, List.setIfInBounds_toArray, List.set_cons_succ, List.set_cons_zero]))
    | ((with_reducible refine g_at (d := 30) ?_); refine wpl_index rfl rfl Tryd.underlying22 hi5 hs5 (by first | assumption | exact Own.sl (by assumption) | exact Sl.back (by first | assumption | exact Ext.drew' (by assumption) | exact Ext.undrew (by assumption)) (by first | assumption | exact Own.sl (by assumption) | exact Sl.back (by first | assumption | exact Ext.drew' (by assumption) | exact Ext.undrew (by assumption)) (by first | assumption | exact Own.sl (by assumption) | exact Sl.back (by first | assumption | exact Ext.drew' (by assumption) | exact Ext.undrew (by assumption)) (by first | assumption | exact Own.sl (by assumption) | exact Sl.back (by first | assumption | exact Ext.drew' (by assumption) | exact Ext.undrew (by assumption)) (by first | assumption | exact Own.sl (by assumption) | exact Sl.back (by first | assumption | exact Ext.drew' (by assumption) | exact Ext.undrew (by assumption)) (by first | assumption | exact Own.sl (by assumption) | exact Sl.back (by first | assumption | exact Ext.drew' (by assumption) | exact Ext.undrew (by assumption)) (by first | assumption | exact Own.sl (by assumption) | exact Sl.back (by first | assumption | exact Ext.drew' (by assumption) | exact Ext.undrew (by assumption)) (by first | assumption | exact Own.sl (by assumption))))))))) rfl (at_getD (by first | omega | (simp <;> omega))) ?_; intro ad30 hb30 hc30; try (conv in (Act.put _ _ _) => simp only [Act.put, List.setIfInBounds_toArray, List.set_cons_succ, List.set_cons_zero])))
  go_loopw [3] (fun o wr => ∃ j : Nat, j ≤ z ∧ Own wr w.heap.size 5 o ((tl j).map bU) ∧ Ext w wr) (fun o _ => 100 - slen o)
  case atStart => exact ⟨0, by omega, h7, hx7⟩
  case round =>
    obtain ⟨j, hj, ho, hx⟩ := hrel
    have hlen := length_tl j
    have hsl : slen u3 = j + 1 := by rw [ho.slen]; simp [hlen]
    by_cases hlt : j < z
    · have ht : ¬ ((n : Int) + (j + 1) + 8) % 64 = 0 := by omega
      go_wp2_with (first
        | ((with_reducible refine g_at (d := 10) ?_); refine wpl_len rfl Tryd.underlying22 ho.sl (by first | rw [List.length_map] | rfl) ?_; try (conv in (Act.put _ _ _) => simp only [Act.put, List.setIfInBounds_toArray, List.set_cons_succ, List.set_cons_zero]))
        | ((with_reducible refine g_at (d := 16) ?_); refine wpl_buildSlice (vs := [bU 0]) Tryd.underlying22 hi5 hz5 hs5 rfl (xs := [(.const (.int .u8 0))]) rfl rfl rfl (by intro u hu; simp at hu; subst hu; rfl) (by omega) ?_; intro v16 w16 h16 hx16 ha16; try (conv in (Act.put _ _ _) => simp only [Act.put, List.setIfInBounds_toArray, List.set_cons_succ, List.set_cons_zero]))
        | ((with_reducible refine g_at (d := 17) ?_); refine wpl_append (v := u3) rfl rfl Tryd.underlying22 hi5 hz5 hs5 hb5 rfl (ho.ext hx16) h16.sl (bU_one [0]) (by first | omega | (simp <;> omega)) (by omega) (Nat.le_trans hx.size hx16.size) ?_; intro v17 w17 h17 hg17 ha17 hx17; try (conv in (Act.put _ _ _) => simp only [Act.put, List.setIfInBounds_toArray, List.set_cons_succ, List.set_cons_zero]))
        | ((with_reducible refine g_at (d := 7) ?_); refine wpl_buildSlice (vs := [bU 128]) Tryd.underlying22 hi5 hz5 hs5 rfl (xs := [(.const (.int .u8 128))]) rfl rfl rfl (by intro u hu; simp at hu; subst hu; rfl) (by omega) ?_; intro v7 w7 h7 hx7 ha7; try (conv in (Act.put _ _ _) => simp only [Act.put, List.setIfInBounds_toArray, List.set_cons_succ, List.set_cons_zero]))
        | ((with_reducible refine g_at (d := 30) ?_); refine wpl_index rfl rfl Tryd.underlying22 hi5 hs5 (by first | assumption | exact Own.sl (by assumption) | exact Sl.back (by first | assumption | exact Ext.drew' (by assumption) | exact Ext.undrew (by assumption)) (by first | assumption | exact Own.sl (by assumption) | exact Sl.back (by first | assumption | exact Ext.drew' (by assumption) | exact Ext.undrew (by assumption)) (by first | assumption | exact Own.sl (by assumption) | exact Sl.back (by first | assumption | exact Ext.drew' (by assumption) | exact Ext.undrew (by assumption)) (by first | assumption | exact Own.sl (by assumption) | exact Sl.back (by first | assumption | exact Ext.drew' (by assumption) | exact Ext.undrew (by assumption)) (by first | assumption | exact Own.sl (by assumption) | exact Sl.back (by first | assumption | exact Ext.drew' (by assumption) | exact Ext.undrew (by assumption)) (by first | assumption | exact Own.sl (by assumption) | exact Sl.back (by first | assumption | exact Ext.drew' (by assumption) | exact Ext.undrew (by assumption)) (by first | assumption | exact Own.sl (by assumption) | exact Sl.back (by first | assumption | exact Ext.drew' (by assumption) | exact Ext.undrew (by assumption)) (by first | assumption | exact Own.sl (by assumption))))))))) rfl (at_getD (by first | omega | (simp <;> omega))) ?_; intro ad30 hb30 hc30; try (conv in (Act.put _ _ _) => simp only [Act.put, List.setIfInBounds_toArray, List.set_cons_succ, List.set_cons_zero])))
      go_roundw
      case rel =>
        refine ⟨j + 1, by omega, ?_, (hx.tr hx16).trans hx17⟩
        rw [← tl_succ, List.map_append]; exact h17
      case measure => rw [h17.slen, hsl]; simp [hlen]; omega
    · obtain rfl : j = z := by omega
      have ht : ((n : Int) + (j + 1) + 8) % 64 = 0 := by omega
      go_wp2_with (first
        | ((with_reducible refine g_at (d := 10) ?_); refine wpl_len rfl Tryd.underlying22 ho.sl (by first | rw [List.length_map] | rfl) ?_; try (conv in (Act.put _ _ _) => simp only [Act.put, List.setIfInBounds_toArray, List.set_cons_succ, List.set_cons_zero]))
        | ((with_reducible refine g_at (d := 18) ?_); refine wpl_make (n := 8) rfl rfl Tryd.underlying22 hi5 hz5 hs5 rfl (by first | rfl | omega | (simp <;> omega)) (by first | rfl | omega | (simp <;> omega)) (by rw [hb5]; omega) (by omega) ?_; intro v18 w18 h18 hx18 ha18; try (conv in (Act.put _ _ _) => simp only [Act.put, List.setIfInBounds_toArray, List.set_cons_succ, List.set_cons_zero]))
        | ((with_reducible refine g_at (d := 7) ?_); refine wpl_buildSlice (vs := [bU 128]) Tryd.underlying22 hi5 hz5 hs5 rfl (xs := [(.const (.int .u8 128))]) rfl rfl rfl (by intro u hu; simp at hu; subst hu; rfl) (by omega) ?_; intro v7 w7 h7 hx7 ha7; try (conv in (Act.put _ _ _) => simp only [Act.put, List.setIfInBounds_toArray, List.set_cons_succ, List.set_cons_zero]))
        | ((with_reducible refine g_at (d := 16) ?_); refine wpl_buildSlice (vs := [bU 0]) Tryd.underlying22 hi5 hz5 hs5 rfl (xs := [(.const (.int .u8 0))]) rfl rfl rfl (by intro u hu; simp at hu; subst hu; rfl) (by omega) ?_; intro v16 w16 h16 hx16 ha16; try (conv in (Act.put _ _ _) => simp only [Act.put, List.setIfInBounds_toArray, List.set_cons_succ, List.set_cons_zero]))
        | ((with_reducible refine g_at (d := 30) ?_); refine wpl_index rfl rfl Tryd.underlying22 hi5 hs5 (by first | assumption | exact Own.sl (by assumption) | exact Sl.back (by first | assumption | exact Ext.drew' (by assumption) | exact Ext.undrew (by assumption)) (by first | assumption | exact Own.sl (by assumption) | exact Sl.back (by first | assumption | exact Ext.drew' (by assumption) | exact Ext.undrew (by assumption)) (by first | assumption | exact Own.sl (by assumption) | exact Sl.back (by first | assumption | exact Ext.drew' (by assumption) | exact Ext.undrew (by assumption)) (by first | assumption | exact Own.sl (by assumption) | exact Sl.back (by first | assumption | exact Ext.drew' (by assumption) | exact Ext.undrew (by assumption)) (by first | assumption | exact Own.sl (by assumption) | exact Sl.back (by first | assumption | exact Ext.drew' (by assumption) | exact Ext.undrew (by assumption)) (by first | assumption | exact Own.sl (by assumption) | exact Sl.back (by first | assumption | exact Ext.drew' (by assumption) | exact Ext.undrew (by assumption)) (by first | assumption | exact Own.sl (by assumption) | exact Sl.back (by first | assumption | exact Ext.drew' (by assumption) | exact Ext.undrew (by assumption)) (by first | assumption | exact Own.sl (by assumption))))))))) rfl (at_getD (by first | omega | (simp <;> omega))) ?_; intro ad30 hb30 hc30; try (conv in (Act.put _ _ _) => simp only [Act.put, List.setIfInBounds_toArray, List.set_cons_succ, List.set_cons_zero])))
      have hxa := hx.tr hx18
      have HB := Lib.hid (show u3.ownBlock ≠ some wr.heap.size from fun e => by have := (ho.lt _ e).2; omega)
      have HA := Lib.hid ha18
      clear ha18
      have h18' : Own w18 wr.heap.size 5 v18 ((half n 0).map bU) := by rw [half_zero]; exact h18
      have hsz := hx.size
      go_loopw [6, 5] (fun i b wq => ∃ k : Nat, k ≤ 8 ∧ i = .int .i64 (7 - (k : Int)) ∧ b = .int .i64 ((8 * n / 256 ^ k : Nat) : Int) ∧ Own wq wr.heap.size 5 v18 ((half n k).map bU) ∧ Own wq w.heap.size 5 u3 ((tl j).map bU) ∧ Ext w wq ∧ wr.heap.size ≤ wq.heap.size) (fun i _ _ => (intOf i + 1).toNat)
      case atStart => exact ⟨0, by omega, rfl, by simp, h18', ho.ext hx18, hxa, hx18.size⟩
      case round =>
        obtain ⟨k, hk, rfl, rfl, hl, ho, hx, hsq⟩ := hrel
        have hlen2 := length_half n k hk
        by_cases hlt : k < 8
        · have hq : 8 * n / 256 ^ k ≤ 8 * n := Nat.div_le_self _ _
          generalize hqe : 8 * n / 256 ^ k = q at hq
          have HQ := Lib.hid hqe
          clear hqe
          go_wp2_with (first
            | ((with_reducible refine g_at (d := 29) ?_); refine wpl_conv rfl (by rw [show ((q : Int) % 256) = ((q % 256 : Nat) : Int) by omega]; exact conv_nb Tryd.underlying3 Tryd.underlying5 _ _) ?_; try (conv in (Act.put _ _ _) => simp only [Act.put, List.setIfInBounds_toArray, List.set_cons_succ, List.set_cons_zero]))
            | ((with_reducible refine g_at (d := 30) ?_); refine wpl_ixown (k := 7 - k) rfl rfl Tryd.underlying22 hi5 hs5 hl (by first | rfl | omega | (simp <;> omega)) (by first | omega | (simp <;> omega)) ?_; intro ad30 at30 hc30; try (conv in (Act.put _ _ _) => simp only [Act.put, List.setIfInBounds_toArray, List.set_cons_succ, List.set_cons_zero]))
            | ((with_reducible refine g_storeat (n := 30) ?_); refine wpl_storeown rfl rfl hi5 hs5 rfl rfl at30 hl (by first | omega | (simp <;> omega)) ?_; intro ws30 hBs30 hgs30 hzs30; (try simp only [Act.eval, Array.getD_eq_getD_getElem?, List.getElem?_toArray, List.getElem?_cons_succ, List.getElem?_cons_zero, Option.getD_some] at hBs30); (try simp only [← List.getD_eq_getElem?_getD] at hBs30); try (conv in (Act.put _ _ _) => simp only [Act.put, List.setIfInBounds_toArray, List.set_cons_succ, List.set_cons_zero]))
            | ((with_reducible refine g_at (d := 7) ?_); refine wpl_buildSlice (vs := [bU 128]) Tryd.underlying22 hi5 hz5 hs5 rfl (xs := [(.const (.int .u8 128))]) rfl rfl rfl (by intro u hu; simp at hu; subst hu; rfl) (by omega) ?_; intro v7 w7 h7 hx7 ha7; try (conv in (Act.put _ _ _) => simp only [Act.put, List.setIfInBounds_toArray, List.set_cons_succ, List.set_cons_zero]))
            | ((with_reducible refine g_at (d := 10) ?_); refine wpl_len rfl Tryd.underlying22 (by first | assumption | exact Own.sl (by assumption) | exact Sl.back (by first | assumption | exact Ext.drew' (by assumption) | exact Ext.undrew (by assumption)) (by first | assumption | exact Own.sl (by assumption) | exact Sl.back (by first | assumption | exact Ext.drew' (by assumption) | exact Ext.undrew (by assumption)) (by first | assumption | exact Own.sl (by assumption) | exact Sl.back (by first | assumption | exact Ext.drew' (by assumption) | exact Ext.undrew (by assumption)) (by first | assumption | exact Own.sl (by assumption) | exact Sl.back (by first | assumption | exact Ext.drew' (by assumption) | exact Ext.undrew (by assumption)) (by first | assumption | exact Own.sl (by assumption) | exact Sl.back (by first | assumption | exact Ext.drew' (by assumption) | exact Ext.undrew (by assumption)) (by first | assumption | exact Own.sl (by assumption) | exact Sl.back (by first | assumption | exact Ext.drew' (by assumption) | exact Ext.undrew (by assumption)) (by first | assumption | exact Own.sl (by assumption) | exact Sl.back (by first | assumption | exact Ext.drew' (by assumption) | exact Ext.undrew (by assumption)) (by first | assumption | exact Own.sl (by assumption))))))))) (by first | rw [List.length_map] | rfl) ?_; try (conv in (Act.put _ _ _) => simp only [Act.put, List.setIfInBounds_toArray, List.set_cons_succ, List.set_cons_zero]))
            | ((with_reducible refine g_at (d := 16) ?_); refine wpl_buildSlice (vs := [bU 0]) Tryd.underlying22 hi5 hz5 hs5 rfl (xs := [(.const (.int .u8 0))]) rfl rfl rfl (by intro u hu; simp at hu; subst hu; rfl) (by omega) ?_; intro v16 w16 h16 hx16 ha16; try (conv in (Act.put _ _ _) => simp only [Act.put, List.setIfInBounds_toArray, List.set_cons_succ, List.set_cons_zero])))
          go_roundw
          case rel =>
            have e : (half n k).set (7 - k) (UInt8.ofNat (q % 256)) = half n (k + 1) := by rw [← HQ.out]; exact half_step n k hlt
            refine ⟨k + 1, by omega, by go_num, ?_, ?_, ?_, ?_, by omega⟩
            · rw [Nat.pow_succ, ← Nat.div_div_eq_div_mul, HQ.out]; go_num
            · rw [← e, List.map_set]; exact hBs30
            · exact ho.kept hgs30 (.inr fun e => HB.out (e.trans HA.out))
            · exact hx.trans ((Below.refl _ _).grown hgs30 hx.size (fun g hg => by have := (hl.lt g hg).1; omega))
          case measure => simp [intOf]; omega
        · obtain rfl : k = 8 := by omega
          rw [half_all] at hl
          have hl8 := length_lenB n
          go_wp2_with (first
            | ((with_reducible refine g_at (d := 35) ?_); refine wpl_append (v := u3) rfl rfl Tryd.underlying22 hi5 hz5 hs5 hb5 rfl ho hl.sl (bU_one _) (by first | omega | (simp <;> omega)) (by omega) hx.size ?_; intro v35 w35 h35 hg35 ha35 hx35; try (conv in (Act.put _ _ _) => simp only [Act.put, List.setIfInBounds_toArray, List.set_cons_succ, List.set_cons_zero]))
            | ((with_reducible refine g_at (d := 7) ?_); refine wpl_buildSlice (vs := [bU 128]) Tryd.underlying22 hi5 hz5 hs5 rfl (xs := [(.const (.int .u8 128))]) rfl rfl rfl (by intro u hu; simp at hu; subst hu; rfl) (by omega) ?_; intro v7 w7 h7 hx7 ha7; try (conv in (Act.put _ _ _) => simp only [Act.put, List.setIfInBounds_toArray, List.set_cons_succ, List.set_cons_zero]))
            | ((with_reducible refine g_at (d := 10) ?_); refine wpl_len rfl Tryd.underlying22 (by first | assumption | exact Own.sl (by assumption) | exact Sl.back (by first | assumption | exact Ext.drew' (by assumption) | exact Ext.undrew (by assumption)) (by first | assumption | exact Own.sl (by assumption) | exact Sl.back (by first | assumption | exact Ext.drew' (by assumption) | exact Ext.undrew (by assumption)) (by first | assumption | exact Own.sl (by assumption) | exact Sl.back (by first | assumption | exact Ext.drew' (by assumption) | exact Ext.undrew (by assumption)) (by first | assumption | exact Own.sl (by assumption) | exact Sl.back (by first | assumption | exact Ext.drew' (by assumption) | exact Ext.undrew (by assumption)) (by first | assumption | exact Own.sl (by assumption) | exact Sl.back (by first | assumption | exact Ext.drew' (by assumption) | exact Ext.undrew (by assumption)) (by first | assumption | exact Own.sl (by assumption) | exact Sl.back (by first | assumption | exact Ext.drew' (by assumption) | exact Ext.undrew (by assumption)) (by first | assumption | exact Own.sl (by assumption) | exact Sl.back (by first | assumption | exact Ext.drew' (by assumption) | exact Ext.undrew (by assumption)) (by first | assumption | exact Own.sl (by assumption))))))))) (by first | rw [List.length_map] | rfl) ?_; try (conv in (Act.put _ _ _) => simp only [Act.put, List.setIfInBounds_toArray, List.set_cons_succ, List.set_cons_zero]))
            | ((with_reducible refine g_at (d := 16) ?_); refine wpl_buildSlice (vs := [bU 0]) Tryd.underlying22 hi5 hz5 hs5 rfl (xs := [(.const (.int .u8 0))]) rfl rfl rfl (by intro u hu; simp at hu; subst hu; rfl) (by omega) ?_; intro v16 w16 h16 hx16 ha16; try (conv in (Act.put _ _ _) => simp only [Act.put, List.setIfInBounds_toArray, List.set_cons_succ, List.set_cons_zero]))
            | ((with_reducible refine g_at (d := 30) ?_); refine wpl_index rfl rfl Tryd.underlying22 hi5 hs5 (by first | assumption | exact Own.sl (by assumption) | exact Sl.back (by first | assumption | exact Ext.drew' (by assumption) | exact Ext.undrew (by assumption)) (by first | assumption | exact Own.sl (by assumption) | exact Sl.back (by first | assumption | exact Ext.drew' (by assumption) | exact Ext.undrew (by assumption)) (by first | assumption | exact Own.sl (by assumption) | exact Sl.back (by first | assumption | exact Ext.drew' (by assumption) | exact Ext.undrew (by assumption)) (by first | assumption | exact Own.sl (by assumption) | exact Sl.back (by first | assumption | exact Ext.drew' (by assumption) | exact Ext.undrew (by assumption)) (by first | assumption | exact Own.sl (by assumption) | exact Sl.back (by first | assumption | exact Ext.drew' (by assumption) | exact Ext.undrew (by assumption)) (by first | assumption | exact Own.sl (by assumption) | exact Sl.back (by first | assumption | exact Ext.drew' (by assumption) | exact Ext.undrew (by assumption)) (by first | assumption | exact Own.sl (by assumption) | exact Sl.back (by first | assumption | exact Ext.drew' (by assumption) | exact Ext.undrew (by assumption)) (by first | assumption | exact Own.sl (by assumption))))))))) rfl (at_getD (by first | omega | (simp <;> omega))) ?_; intro ad30 hb30 hc30; try (conv in (Act.put _ _ _) => simp only [Act.put, List.setIfInBounds_toArray, List.set_cons_succ, List.set_cons_zero])))
          go_ret
          exact ⟨_, rfl, hx.trans hx35, by rw [← tail_done, hz, List.take_of_length_le (by rw [length_lenB]; omega), List.map_append]; exact h35⟩
end Go.Proofs.YtamddohbpdbdmaaDoor
end
section
set_option linter.unusedVariables false
set_option linter.unusedSimpArgs false
namespace Go.Proofs.YtamddohbpdbdmaaDoor
open Go.RowKit Go.Ch
theorem begin_c (w : World) :
    Calls Tryd.prog 28 #[] w (Ret fun v' w' => Ext w w' ∧ v' = wds begin8) := by
  obtain ⟨i28, hi28, hz28, hs28, hb28⟩ := info_parts infoU32
  have hsz28 := info_size infoU32
  obtain ⟨i29, hi29, hz29, hs29, hb29⟩ := info_parts infoW8
  have hsz29 := info_size infoW8
  unfold wds
  go_enter Tryd.func28, Tryd.ntmps28
  go_wp2_with (first
    | ((with_reducible refine g_at (d := 0) ?_); refine wpl_alloc hi29 hz29 (cs := ((zeros 8).map w32).toArray) rfl ?_; intro b0 w0 hB0 hb0 hx0; try (conv in (Act.put _ _ _) => simp only [Act.put, List.setIfInBounds_toArray, List.set_cons_succ, List.set_cons_zero]))
    | ((with_reducible refine g_at (d := 1) ?_); refine wpl_build_arr (vs := (begin8.list.map w32)) Tryd.underlying29 hi29 hz29 (by first | rfl | simp [zeros] | decide) hi28 hs28 (xs := [(.const (.int .u32 1779033703)), (.const (.int .u32 3144134277)), (.const (.int .u32 1013904242)), (.const (.int .u32 2773480762)), (.const (.int .u32 1359893119)), (.const (.int .u32 2600822924)), (.const (.int .u32 528734635)), (.const (.int .u32 1541459225))]) rfl rfl rfl (fun u hu => by obtain ⟨x, _, rfl⟩ := List.mem_map.1 hu; rfl) ?_; try (conv in (Act.put _ _ _) => simp only [Act.put, List.setIfInBounds_toArray, List.set_cons_succ, List.set_cons_zero]))
    | ((with_reducible refine g_storeat (n := 0) ?_); refine wpl_storerow rfl rfl hi29 (by simp [hs29, len8]) (words_one begin8) hB0 (by simp [zeros, len8]) ?_; intro ws0 hBs0 hgs0 hzs0; try (conv in (Act.put _ _ _) => simp only [Act.put, List.setIfInBounds_toArray, List.set_cons_succ, List.set_cons_zero])))
  exact bodyPost_ret (results_cell_row rfl _ _ _ _ _ _ _ rfl hBs0 Tryd.underlying29 rfl (by simp [hsz29, len8])) rfl ⟨_, rfl, hx0.trans (grown_below hgs0 hb0 hx0.size), rfl⟩
theorem all_len (n : Nat) : ∃ q, n + (tailOf n).length = 64 * q := ⟨(n + (tailOf n).length) / 64, by have := whole_tailOf n; omega⟩
set_option maxRecDepth 100000 in
set_option maxHeartbeats 8000000 in
theorem sum_c (w : World) (B : Nat) (v : Value) (l : List UInt8) (hv : Sl w B v (l.map bU)) (hl : l.length ≤ 100000) (hG : GK w) :
    Calls Tryd.prog 19 #[v] w (Ret fun v' w' => Ext w w' ∧ Own w' w.heap.size 5 v' ((digest consts begin8 l).map bU)) := by
  obtain ⟨i5, hi5, hz5, hs5, hb5⟩ := info_parts infoU8
  have hsz5 := info_size infoU8
  obtain ⟨i28, hi28, hz28, hs28, hb28⟩ := info_parts infoU32
  have hsz28 := info_size infoU32
  obtain ⟨i29, hi29, hz29, hs29, hb29⟩ := info_parts infoW8
  have hsz29 := info_size infoW8
  obtain ⟨i54, hi54, hz54, hs54, hb54⟩ := info_parts infoB64
  have hsz54 := info_size infoB64
  obtain ⟨q, hq⟩ := all_len l.length
  have hq' : q ≤ 10000 := by rw [length_tailOf] at hq; omega
  have HL8 := Lib.hid (length_tailOf l.length)
  have HQ := Lib.hid hq
  have hlt8 : (tailOf l.length).length ≤ 72 := by rw [length_tailOf]; omega
  clear hq
  go_enter Tryd.func19, Tryd.ntmps19
  go_wp2_with (first
    | ((with_reducible refine g_at (d := 13) ?_); refine wpl_len rfl Tryd.underlying22 hv (by first | rw [List.length_map] | rfl) ?_; try (conv in (Act.put _ _ _) => simp only [Act.put, List.setIfInBounds_toArray, List.set_cons_succ, List.set_cons_zero]))
    | ((with_reducible refine g_at (d := 14) ?_); refine wpl_call Tryd.func27 (by kernel_rfl) (by kernel_rfl) rfl (tail_c _ l.length (by omega)) ?_; rintro v14 w14 ⟨hx14, v1, rfl, h14⟩; try (conv in (Act.put _ _ _) => simp only [Act.put, List.setIfInBounds_toArray, List.set_cons_succ, List.set_cons_zero]))
    | ((with_reducible refine g_at (d := 19) ?_); refine wpl_buildSlice (vs := []) Tryd.underlying22 hi5 hz5 hs5 rfl (xs := []) rfl rfl rfl (by simp) (by omega) ?_; intro v19 w19 h19 hx19 ha19; try (conv in (Act.put _ _ _) => simp only [Act.put, List.setIfInBounds_toArray, List.set_cons_succ, List.set_cons_zero]))
    | ((with_reducible refine g_at (d := 21) ?_); refine wpl_append (v := v19) rfl rfl Tryd.underlying22 hi5 hz5 hs5 hb5 rfl h19 ((hv.ext hx14).ext hx19) (bU_one _) (by first | omega | (simp <;> omega)) (by omega) hx19.size ?_; intro v21 w21 h21 hg21 ha21 hx21; try (conv in (Act.put _ _ _) => simp only [Act.put, List.setIfInBounds_toArray, List.set_cons_succ, List.set_cons_zero]))
    | ((with_reducible refine g_at (d := 23) ?_); refine wpl_append (v := v21) rfl rfl Tryd.underlying22 hi5 hz5 hs5 hb5 rfl h21 ((h14.sl.ext hx19).below hx21) (bU_one _) (by first | omega | (simp <;> omega)) (by omega) (Nat.le_trans hx19.size hx21.size) ?_; intro v23 w23 h23 hg23 ha23 hx23; try (conv in (Act.put _ _ _) => simp only [Act.put, List.setIfInBounds_toArray, List.set_cons_succ, List.set_cons_zero]))
    | ((with_reducible refine g_at (d := 24) ?_); refine wpl_call Tryd.func28 (by kernel_rfl) (by kernel_rfl) rfl (begin_c _) ?_; rintro v24 w24 ⟨hx24, rfl⟩; try (conv in (Act.put _ _ _) => simp only [Act.put, List.setIfInBounds_toArray, List.set_cons_succ, List.set_cons_zero]))
    | ((with_reducible refine g_at (d := 6) ?_); refine wpl_alloc hi29 hz29 (cs := ((zeros 8).map w32).toArray) rfl ?_; intro b6 w6 hB6 hb6 hx6; try (conv in (Act.put _ _ _) => simp only [Act.put, List.setIfInBounds_toArray, List.set_cons_succ, List.set_cons_zero]))
    | ((with_reducible refine g_storeat (n := 6) ?_); refine wpl_storerow rfl rfl hi29 (by simp [hs29, len8]) (words_one begin8) hB6 (by simp [zeros, len8]) ?_; intro ws6 hBs6 hgs6 hzs6; try (conv in (Act.put _ _ _) => simp only [Act.put, List.setIfInBounds_toArray, List.set_cons_succ, List.set_cons_zero]))
    | ((with_reducible refine g_at (d := 27) ?_); refine wpl_len rfl Tryd.underlying22 (by first | assumption | exact Own.sl (by assumption) | exact Sl.back (by first | assumption | exact Ext.drew' (by assumption) | exact Ext.undrew (by assumption)) (by first | assumption | exact Own.sl (by assumption) | exact Sl.back (by first | assumption | exact Ext.drew' (by assumption) | exact Ext.undrew (by assumption)) (by first | assumption | exact Own.sl (by assumption) | exact Sl.back (by first | assumption | exact Ext.drew' (by assumption) | exact Ext.undrew (by assumption)) (by first | assumption | exact Own.sl (by assumption) | exact Sl.back (by first | assumption | exact Ext.drew' (by assumption) | exact Ext.undrew (by assumption)) (by first | assumption | exact Own.sl (by assumption) | exact Sl.back (by first | assumption | exact Ext.drew' (by assumption) | exact Ext.undrew (by assumption)) (by first | assumption | exact Own.sl (by assumption) | exact Sl.back (by first | assumption | exact Ext.drew' (by assumption) | exact Ext.undrew (by assumption)) (by first | assumption | exact Own.sl (by assumption) | exact Sl.back (by first | assumption | exact Ext.drew' (by assumption) | exact Ext.undrew (by assumption)) (by first | assumption | exact Own.sl (by assumption))))))))) (by first | rw [List.length_map] | rfl) ?_; try (conv in (Act.put _ _ _) => simp only [Act.put, List.setIfInBounds_toArray, List.set_cons_succ, List.set_cons_zero]))
    | ((with_reducible refine g_at (d := 34) ?_); refine wpl_slice_from rfl rfl Tryd.underlying22 hi5 hs5 (by first | assumption | exact Own.sl (by assumption) | exact Sl.back (by first | assumption | exact Ext.drew' (by assumption) | exact Ext.undrew (by assumption)) (by first | assumption | exact Own.sl (by assumption) | exact Sl.back (by first | assumption | exact Ext.drew' (by assumption) | exact Ext.undrew (by assumption)) (by first | assumption | exact Own.sl (by assumption) | exact Sl.back (by first | assumption | exact Ext.drew' (by assumption) | exact Ext.undrew (by assumption)) (by first | assumption | exact Own.sl (by assumption) | exact Sl.back (by first | assumption | exact Ext.drew' (by assumption) | exact Ext.undrew (by assumption)) (by first | assumption | exact Own.sl (by assumption) | exact Sl.back (by first | assumption | exact Ext.drew' (by assumption) | exact Ext.undrew (by assumption)) (by first | assumption | exact Own.sl (by assumption) | exact Sl.back (by first | assumption | exact Ext.drew' (by assumption) | exact Ext.undrew (by assumption)) (by first | assumption | exact Own.sl (by assumption) | exact Sl.back (by first | assumption | exact Ext.drew' (by assumption) | exact Ext.undrew (by assumption)) (by first | assumption | exact Own.sl (by assumption))))))))) rfl (by first | omega | (simp <;> omega)) ?_; intro v34 h34; (try simp only [← List.map_take, ← List.map_drop, List.take_zero, List.drop_zero] at h34); try (conv in (Act.put _ _ _) => simp only [Act.put, List.setIfInBounds_toArray, List.set_cons_succ, List.set_cons_zero]))
    | ((with_reducible refine g_at (d := 45) ?_); refine wpl_conv rfl (by exact conv_wb Tryd.underlying28 Tryd.underlying5 _ _) ?_; try (conv in (Act.put _ _ _) => simp only [Act.put, List.setIfInBounds_toArray, List.set_cons_succ, List.set_cons_zero]))
    | ((with_reducible refine g_at (d := 48) ?_); refine wpl_conv rfl (by exact conv_wb Tryd.underlying28 Tryd.underlying5 _ _) ?_; try (conv in (Act.put _ _ _) => simp only [Act.put, List.setIfInBounds_toArray, List.set_cons_succ, List.set_cons_zero]))
    | ((with_reducible refine g_at (d := 51) ?_); refine wpl_conv rfl (by exact conv_wb Tryd.underlying28 Tryd.underlying5 _ _) ?_; try (conv in (Act.put _ _ _) => simp only [Act.put, List.setIfInBounds_toArray, List.set_cons_succ, List.set_cons_zero]))
    | ((with_reducible refine g_at (d := 53) ?_); refine wpl_conv rfl (by exact conv_wb Tryd.underlying28 Tryd.underlying5 _ _) ?_; try (conv in (Act.put _ _ _) => simp only [Act.put, List.setIfInBounds_toArray, List.set_cons_succ, List.set_cons_zero])))
  have hAll : Own w23 w14.heap.size 5 v23 ((l ++ tailOf l.length).map bU) := by simpa using h23
  have hx23w : Ext w w23 := by
    have e1 : Ext w w19 := hx14.tr hx19
    exact (e1.trans (hx21.mono hx14.size)).trans (hx23.mono hx14.size)
  have hb6w : w.heap.size ≤ b6 := by have h1 := hx23w.size; have h2 := hx24.size; omega
  have hb6a : w23.heap.size ≤ b6 := by have h2 := hx24.size; omega
  have hxw : Ext w ws6 := by
    have e1 : Ext w w6 := (hx23w.tr hx24).tr hx6
    exact e1.trans (grown_below hgs6 hb6w e1.size)
  have hSl : Sl ws6 w23.heap.size v23 ((l ++ tailOf l.length).map bU) := ((hAll.sl.ext hx24).ext hx6).grown hgs6 (fun g hg => by injection hg with hg; omega)
  generalize hA : l ++ tailOf l.length = A at hSl
  have hA1 : A.length ≤ 64 * q := by rw [← hA, List.length_append, HQ.out]; exact Nat.le_refl _
  have hA2 : 64 * q ≤ A.length := by rw [← hA, List.length_append, HQ.out]; exact Nat.le_refl _
  have HA := Lib.hid hA
  have HG := Lib.hid hG
  clear hA hAll h14 h19 h21 h23 hg21 ha21 hx21 hg23 ha23 hx23 ha19 hx19 hx14 hx24 hB6 hx6 hgs6 hzs6 hlt8 hv hG
  unfold wds
  go_loopw [7] (fun i wr => ∃ k : Nat, k ≤ q ∧ i = .int .i64 (64 * (k : Int)) ∧ Blk wr b6 29 ((pressN consts begin8 A k).list.map w32).toArray ∧ Sl wr w23.heap.size v23 (A.map bU) ∧ Ext w wr) (fun i _ => (64 * q + 1 - intOf i).toNat)
  case atStart => exact ⟨0, by omega, rfl, hBs6, hSl, hxw⟩
  case round =>
    obtain ⟨k, hk, rfl, hBv, hSl, hx⟩ := hrel
    by_cases hlt : k < q
    · have hd : decide (64 * (k : Int) < (A.length : Int)) = true := by simp; omega
      go_wp2_with (first
        | ((with_reducible refine g_at (d := 27) ?_); refine wpl_len rfl Tryd.underlying22 hSl (by first | rw [List.length_map] | rfl) ?_; try (conv in (Act.put _ _ _) => simp only [Act.put, List.setIfInBounds_toArray, List.set_cons_succ, List.set_cons_zero]))
        | ((with_reducible refine g_at (d := 13) ?_); refine wpl_len rfl Tryd.underlying22 (by first | assumption | exact Own.sl (by assumption) | exact Sl.back (by first | assumption | exact Ext.drew' (by assumption) | exact Ext.undrew (by assumption)) (by first | assumption | exact Own.sl (by assumption) | exact Sl.back (by first | assumption | exact Ext.drew' (by assumption) | exact Ext.undrew (by assumption)) (by first | assumption | exact Own.sl (by assumption) | exact Sl.back (by first | assumption | exact Ext.drew' (by assumption) | exact Ext.undrew (by assumption)) (by first | assumption | exact Own.sl (by assumption) | exact Sl.back (by first | assumption | exact Ext.drew' (by assumption) | exact Ext.undrew (by assumption)) (by first | assumption | exact Own.sl (by assumption) | exact Sl.back (by first | assumption | exact Ext.drew' (by assumption) | exact Ext.undrew (by assumption)) (by first | assumption | exact Own.sl (by assumption) | exact Sl.back (by first | assumption | exact Ext.drew' (by assumption) | exact Ext.undrew (by assumption)) (by first | assumption | exact Own.sl (by assumption) | exact Sl.back (by first | assumption | exact Ext.drew' (by assumption) | exact Ext.undrew (by assumption)) (by first | assumption | exact Own.sl (by assumption))))))))) (by first | rw [List.length_map] | rfl) ?_; try (conv in (Act.put _ _ _) => simp only [Act.put, List.setIfInBounds_toArray, List.set_cons_succ, List.set_cons_zero]))
        | ((with_reducible refine g_at (d := 19) ?_); refine wpl_buildSlice (vs := []) Tryd.underlying22 hi5 hz5 hs5 rfl (xs := []) rfl rfl rfl (by simp) (by omega) ?_; intro v19 w19 h19 hx19 ha19; try (conv in (Act.put _ _ _) => simp only [Act.put, List.setIfInBounds_toArray, List.set_cons_succ, List.set_cons_zero]))
        | ((with_reducible refine g_at (d := 34) ?_); refine wpl_slice_from rfl rfl Tryd.underlying22 hi5 hs5 (by first | assumption | exact Own.sl (by assumption) | exact Sl.back (by first | assumption | exact Ext.drew' (by assumption) | exact Ext.undrew (by assumption)) (by first | assumption | exact Own.sl (by assumption) | exact Sl.back (by first | assumption | exact Ext.drew' (by assumption) | exact Ext.undrew (by assumption)) (by first | assumption | exact Own.sl (by assumption) | exact Sl.back (by first | assumption | exact Ext.drew' (by assumption) | exact Ext.undrew (by assumption)) (by first | assumption | exact Own.sl (by assumption) | exact Sl.back (by first | assumption | exact Ext.drew' (by assumption) | exact Ext.undrew (by assumption)) (by first | assumption | exact Own.sl (by assumption) | exact Sl.back (by first | assumption | exact Ext.drew' (by assumption) | exact Ext.undrew (by assumption)) (by first | assumption | exact Own.sl (by assumption) | exact Sl.back (by first | assumption | exact Ext.drew' (by assumption) | exact Ext.undrew (by assumption)) (by first | assumption | exact Own.sl (by assumption) | exact Sl.back (by first | assumption | exact Ext.drew' (by assumption) | exact Ext.undrew (by assumption)) (by first | assumption | exact Own.sl (by assumption))))))))) rfl (by first | omega | (simp <;> omega)) ?_; intro v34 h34; (try simp only [← List.map_take, ← List.map_drop, List.take_zero, List.drop_zero] at h34); try (conv in (Act.put _ _ _) => simp only [Act.put, List.setIfInBounds_toArray, List.set_cons_succ, List.set_cons_zero]))
        | ((with_reducible refine g_at (d := 45) ?_); refine wpl_conv rfl (by exact conv_wb Tryd.underlying28 Tryd.underlying5 _ _) ?_; try (conv in (Act.put _ _ _) => simp only [Act.put, List.setIfInBounds_toArray, List.set_cons_succ, List.set_cons_zero]))
        | ((with_reducible refine g_at (d := 48) ?_); refine wpl_conv rfl (by exact conv_wb Tryd.underlying28 Tryd.underlying5 _ _) ?_; try (conv in (Act.put _ _ _) => simp only [Act.put, List.setIfInBounds_toArray, List.set_cons_succ, List.set_cons_zero]))
        | ((with_reducible refine g_at (d := 51) ?_); refine wpl_conv rfl (by exact conv_wb Tryd.underlying28 Tryd.underlying5 _ _) ?_; try (conv in (Act.put _ _ _) => simp only [Act.put, List.setIfInBounds_toArray, List.set_cons_succ, List.set_cons_zero]))
        | ((with_reducible refine g_at (d := 53) ?_); refine wpl_conv rfl (by exact conv_wb Tryd.underlying28 Tryd.underlying5 _ _) ?_; try (conv in (Act.put _ _ _) => simp only [Act.put, List.setIfInBounds_toArray, List.set_cons_succ, List.set_cons_zero]))
        | ((with_reducible refine g_at (d := 44) ?_); refine wpl_bin rfl rfl (by exact Go.Ch.run_shr32 _ _ _ _ _ 24 (by omega) _) ?_; try (conv in (Act.put _ _ _) => simp only [Act.put, List.setIfInBounds_toArray, List.set_cons_succ, List.set_cons_zero]))
        | ((with_reducible refine g_at (d := 47) ?_); refine wpl_bin rfl rfl (by exact Go.Ch.run_shr32 _ _ _ _ _ 16 (by omega) _) ?_; try (conv in (Act.put _ _ _) => simp only [Act.put, List.setIfInBounds_toArray, List.set_cons_succ, List.set_cons_zero]))
        | ((with_reducible refine g_at (d := 50) ?_); refine wpl_bin rfl rfl (by exact Go.Ch.run_shr32 _ _ _ _ _ 8 (by omega) _) ?_; try (conv in (Act.put _ _ _) => simp only [Act.put, List.setIfInBounds_toArray, List.set_cons_succ, List.set_cons_zero])))
      refine wp_region_rel 7 58 Ext (by kernel_rfl) (by kernel_rfl) (by kernel_rfl) rfl rfl (fun _ => Below.refl _ _) (fun _ _ _ => Ext.tr) ?_
      refine r_loadrow Tryd.underlying29 rfl rfl hBv (by simp [hsz29, len8]) ?_
      refine r_move _ rfl (stays_eq _) ?_
      refine r_move _ rfl (stays_eq _) ?_
      refine r_slice_from Tryd.underlying22 hi5 hs5 (by rintro _ w hX rfl; exact Sl.extd hSl hX) rfl (show _ = ((64 * k : Nat) : Int) by first | omega | (simp <;> omega)) (by first | omega | (simp <;> omega)) ?_
      refine r_s2a Tryd.underlying54 (fun _ _ _ h => h) (by simp; omega) (by decide) (by rw [← List.map_drop, ← List.map_take]) ?_
      refine r_loadcells Tryd.underlying54 rfl (by simp [hsz54]; omega) (fun _ _ _ h => h) ?_
      refine r_callX _ Tryd.func29 (by kernel_rfl) (by kernel_rfl) rfl (fun w hX => press_c _ (pressN consts begin8 A k) ((A.drop (64 * k)).take 64) (by simp; omega) ((HG.out.ext hx).ext hX.undrew)) ?_
      intro wR9 hxR9; have gxR9 := hxR9.undrew
      refine Fin_eq ?_
      refine Fin_eq ?_
      refine Fin_eq ?_
      intro v34 h34
      intro v35 h35
      refine Fin_eq ?_
      refine Fin_eq ?_
      show wpList _ _ _ _ _ _
      simp only [Act.put, List.setIfInBounds_toArray, List.set_cons_succ, List.set_cons_zero, Array.getD_eq_getD_getElem?, List.getElem?_toArray, List.getElem?_cons_succ, List.getElem?_cons_zero, Option.getD_some]
      simp only [List.toList_toArray, List.drop_succ_cons, List.drop_zero]
      have hBu := hBv.ext gxR9
      have hSq := hSl.ext gxR9
      have hxq : Ext w wR9 := hx.tr gxR9
      unfold wds
      clear hSl
      go_wp2_with (first
        | ((with_reducible refine g_storeat (n := 6) ?_); refine wpl_storerow rfl rfl hi29 (by simp [hs29, len8]) (words_one _) hBu (by simp [len8]) ?_; intro ws6 hBs6 hgs6 hzs6; try (conv in (Act.put _ _ _) => simp only [Act.put, List.setIfInBounds_toArray, List.set_cons_succ, List.set_cons_zero]))
        | ((with_reducible refine g_at (d := 13) ?_); refine wpl_len rfl Tryd.underlying22 (by first | assumption | exact Own.sl (by assumption) | exact Sl.back (by first | assumption | exact Ext.drew' (by assumption) | exact Ext.undrew (by assumption)) (by first | assumption | exact Own.sl (by assumption) | exact Sl.back (by first | assumption | exact Ext.drew' (by assumption) | exact Ext.undrew (by assumption)) (by first | assumption | exact Own.sl (by assumption) | exact Sl.back (by first | assumption | exact Ext.drew' (by assumption) | exact Ext.undrew (by assumption)) (by first | assumption | exact Own.sl (by assumption) | exact Sl.back (by first | assumption | exact Ext.drew' (by assumption) | exact Ext.undrew (by assumption)) (by first | assumption | exact Own.sl (by assumption) | exact Sl.back (by first | assumption | exact Ext.drew' (by assumption) | exact Ext.undrew (by assumption)) (by first | assumption | exact Own.sl (by assumption) | exact Sl.back (by first | assumption | exact Ext.drew' (by assumption) | exact Ext.undrew (by assumption)) (by first | assumption | exact Own.sl (by assumption) | exact Sl.back (by first | assumption | exact Ext.drew' (by assumption) | exact Ext.undrew (by assumption)) (by first | assumption | exact Own.sl (by assumption))))))))) (by first | rw [List.length_map] | rfl) ?_; try (conv in (Act.put _ _ _) => simp only [Act.put, List.setIfInBounds_toArray, List.set_cons_succ, List.set_cons_zero]))
        | ((with_reducible refine g_at (d := 19) ?_); refine wpl_buildSlice (vs := []) Tryd.underlying22 hi5 hz5 hs5 rfl (xs := []) rfl rfl rfl (by simp) (by omega) ?_; intro v19 w19 h19 hx19 ha19; try (conv in (Act.put _ _ _) => simp only [Act.put, List.setIfInBounds_toArray, List.set_cons_succ, List.set_cons_zero]))
        | ((with_reducible refine g_at (d := 27) ?_); refine wpl_len rfl Tryd.underlying22 (by first | assumption | exact Own.sl (by assumption) | exact Sl.back (by first | assumption | exact Ext.drew' (by assumption) | exact Ext.undrew (by assumption)) (by first | assumption | exact Own.sl (by assumption) | exact Sl.back (by first | assumption | exact Ext.drew' (by assumption) | exact Ext.undrew (by assumption)) (by first | assumption | exact Own.sl (by assumption) | exact Sl.back (by first | assumption | exact Ext.drew' (by assumption) | exact Ext.undrew (by assumption)) (by first | assumption | exact Own.sl (by assumption) | exact Sl.back (by first | assumption | exact Ext.drew' (by assumption) | exact Ext.undrew (by assumption)) (by first | assumption | exact Own.sl (by assumption) | exact Sl.back (by first | assumption | exact Ext.drew' (by assumption) | exact Ext.undrew (by assumption)) (by first | assumption | exact Own.sl (by assumption) | exact Sl.back (by first | assumption | exact Ext.drew' (by assumption) | exact Ext.undrew (by assumption)) (by first | assumption | exact Own.sl (by assumption) | exact Sl.back (by first | assumption | exact Ext.drew' (by assumption) | exact Ext.undrew (by assumption)) (by first | assumption | exact Own.sl (by assumption))))))))) (by first | rw [List.length_map] | rfl) ?_; try (conv in (Act.put _ _ _) => simp only [Act.put, List.setIfInBounds_toArray, List.set_cons_succ, List.set_cons_zero]))
        | ((with_reducible refine g_at (d := 34) ?_); refine wpl_slice_from rfl rfl Tryd.underlying22 hi5 hs5 (by first | assumption | exact Own.sl (by assumption) | exact Sl.back (by first | assumption | exact Ext.drew' (by assumption) | exact Ext.undrew (by assumption)) (by first | assumption | exact Own.sl (by assumption) | exact Sl.back (by first | assumption | exact Ext.drew' (by assumption) | exact Ext.undrew (by assumption)) (by first | assumption | exact Own.sl (by assumption) | exact Sl.back (by first | assumption | exact Ext.drew' (by assumption) | exact Ext.undrew (by assumption)) (by first | assumption | exact Own.sl (by assumption) | exact Sl.back (by first | assumption | exact Ext.drew' (by assumption) | exact Ext.undrew (by assumption)) (by first | assumption | exact Own.sl (by assumption) | exact Sl.back (by first | assumption | exact Ext.drew' (by assumption) | exact Ext.undrew (by assumption)) (by first | assumption | exact Own.sl (by assumption) | exact Sl.back (by first | assumption | exact Ext.drew' (by assumption) | exact Ext.undrew (by assumption)) (by first | assumption | exact Own.sl (by assumption) | exact Sl.back (by first | assumption | exact Ext.drew' (by assumption) | exact Ext.undrew (by assumption)) (by first | assumption | exact Own.sl (by assumption))))))))) rfl (by first | omega | (simp <;> omega)) ?_; intro v34 h34; (try simp only [← List.map_take, ← List.map_drop, List.take_zero, List.drop_zero] at h34); try (conv in (Act.put _ _ _) => simp only [Act.put, List.setIfInBounds_toArray, List.set_cons_succ, List.set_cons_zero]))
        | ((with_reducible refine g_at (d := 45) ?_); refine wpl_conv rfl (by exact conv_wb Tryd.underlying28 Tryd.underlying5 _ _) ?_; try (conv in (Act.put _ _ _) => simp only [Act.put, List.setIfInBounds_toArray, List.set_cons_succ, List.set_cons_zero]))
        | ((with_reducible refine g_at (d := 48) ?_); refine wpl_conv rfl (by exact conv_wb Tryd.underlying28 Tryd.underlying5 _ _) ?_; try (conv in (Act.put _ _ _) => simp only [Act.put, List.setIfInBounds_toArray, List.set_cons_succ, List.set_cons_zero]))
        | ((with_reducible refine g_at (d := 51) ?_); refine wpl_conv rfl (by exact conv_wb Tryd.underlying28 Tryd.underlying5 _ _) ?_; try (conv in (Act.put _ _ _) => simp only [Act.put, List.setIfInBounds_toArray, List.set_cons_succ, List.set_cons_zero]))
        | ((with_reducible refine g_at (d := 53) ?_); refine wpl_conv rfl (by exact conv_wb Tryd.underlying28 Tryd.underlying5 _ _) ?_; try (conv in (Act.put _ _ _) => simp only [Act.put, List.setIfInBounds_toArray, List.set_cons_succ, List.set_cons_zero]))
        | ((with_reducible refine g_at (d := 44) ?_); refine wpl_bin rfl rfl (by exact Go.Ch.run_shr32 _ _ _ _ _ 24 (by omega) _) ?_; try (conv in (Act.put _ _ _) => simp only [Act.put, List.setIfInBounds_toArray, List.set_cons_succ, List.set_cons_zero]))
        | ((with_reducible refine g_at (d := 47) ?_); refine wpl_bin rfl rfl (by exact Go.Ch.run_shr32 _ _ _ _ _ 16 (by omega) _) ?_; try (conv in (Act.put _ _ _) => simp only [Act.put, List.setIfInBounds_toArray, List.set_cons_succ, List.set_cons_zero]))
        | ((with_reducible refine g_at (d := 50) ?_); refine wpl_bin rfl rfl (by exact Go.Ch.run_shr32 _ _ _ _ _ 8 (by omega) _) ?_; try (conv in (Act.put _ _ _) => simp only [Act.put, List.setIfInBounds_toArray, List.set_cons_succ, List.set_cons_zero])))
      go_roundw
      case rel => exact ⟨k + 1, by omega, by go_num, hBs6, hSq.grown hgs6 (fun g hg => by injection hg with hg; omega), hxq.trans (grown_below hgs6 hb6w hxq.size)⟩
      case measure => simp [intOf]; omega
    · obtain rfl : k = q := by omega
      generalize hV : pressN consts begin8 A k = V at hBv
      have HV := Lib.hid hV
      clear hV
      have hd : decide (64 * (k : Int) < (A.length : Int)) = false := by simp; omega
      go_wp2_with (first
        | ((with_reducible refine g_at (d := 27) ?_); refine wpl_len rfl Tryd.underlying22 hSl (by first | rw [List.length_map] | rfl) ?_; try (conv in (Act.put _ _ _) => simp only [Act.put, List.setIfInBounds_toArray, List.set_cons_succ, List.set_cons_zero]))
        | ((with_reducible refine g_at (d := 38) ?_); refine wpl_loadrow (cs := (V.list.map w32).toArray) (t' := 29) rfl hBv Tryd.underlying29 rfl (by simp [hsz29, len8]) ?_; try (conv in (Act.put _ _ _) => simp only [Act.put, List.setIfInBounds_toArray, List.set_cons_succ, List.set_cons_zero]))
        | ((with_reducible refine g_at (d := 13) ?_); refine wpl_len rfl Tryd.underlying22 (by first | assumption | exact Own.sl (by assumption) | exact Sl.back (by first | assumption | exact Ext.drew' (by assumption) | exact Ext.undrew (by assumption)) (by first | assumption | exact Own.sl (by assumption) | exact Sl.back (by first | assumption | exact Ext.drew' (by assumption) | exact Ext.undrew (by assumption)) (by first | assumption | exact Own.sl (by assumption) | exact Sl.back (by first | assumption | exact Ext.drew' (by assumption) | exact Ext.undrew (by assumption)) (by first | assumption | exact Own.sl (by assumption) | exact Sl.back (by first | assumption | exact Ext.drew' (by assumption) | exact Ext.undrew (by assumption)) (by first | assumption | exact Own.sl (by assumption) | exact Sl.back (by first | assumption | exact Ext.drew' (by assumption) | exact Ext.undrew (by assumption)) (by first | assumption | exact Own.sl (by assumption) | exact Sl.back (by first | assumption | exact Ext.drew' (by assumption) | exact Ext.undrew (by assumption)) (by first | assumption | exact Own.sl (by assumption) | exact Sl.back (by first | assumption | exact Ext.drew' (by assumption) | exact Ext.undrew (by assumption)) (by first | assumption | exact Own.sl (by assumption))))))))) (by first | rw [List.length_map] | rfl) ?_; try (conv in (Act.put _ _ _) => simp only [Act.put, List.setIfInBounds_toArray, List.set_cons_succ, List.set_cons_zero]))
        | ((with_reducible refine g_at (d := 19) ?_); refine wpl_buildSlice (vs := []) Tryd.underlying22 hi5 hz5 hs5 rfl (xs := []) rfl rfl rfl (by simp) (by omega) ?_; intro v19 w19 h19 hx19 ha19; try (conv in (Act.put _ _ _) => simp only [Act.put, List.setIfInBounds_toArray, List.set_cons_succ, List.set_cons_zero]))
        | ((with_reducible refine g_at (d := 34) ?_); refine wpl_slice_from rfl rfl Tryd.underlying22 hi5 hs5 (by first | assumption | exact Own.sl (by assumption) | exact Sl.back (by first | assumption | exact Ext.drew' (by assumption) | exact Ext.undrew (by assumption)) (by first | assumption | exact Own.sl (by assumption) | exact Sl.back (by first | assumption | exact Ext.drew' (by assumption) | exact Ext.undrew (by assumption)) (by first | assumption | exact Own.sl (by assumption) | exact Sl.back (by first | assumption | exact Ext.drew' (by assumption) | exact Ext.undrew (by assumption)) (by first | assumption | exact Own.sl (by assumption) | exact Sl.back (by first | assumption | exact Ext.drew' (by assumption) | exact Ext.undrew (by assumption)) (by first | assumption | exact Own.sl (by assumption) | exact Sl.back (by first | assumption | exact Ext.drew' (by assumption) | exact Ext.undrew (by assumption)) (by first | assumption | exact Own.sl (by assumption) | exact Sl.back (by first | assumption | exact Ext.drew' (by assumption) | exact Ext.undrew (by assumption)) (by first | assumption | exact Own.sl (by assumption) | exact Sl.back (by first | assumption | exact Ext.drew' (by assumption) | exact Ext.undrew (by assumption)) (by first | assumption | exact Own.sl (by assumption))))))))) rfl (by first | omega | (simp <;> omega)) ?_; intro v34 h34; (try simp only [← List.map_take, ← List.map_drop, List.take_zero, List.drop_zero] at h34); try (conv in (Act.put _ _ _) => simp only [Act.put, List.setIfInBounds_toArray, List.set_cons_succ, List.set_cons_zero]))
        | ((with_reducible refine g_at (d := 45) ?_); refine wpl_conv rfl (by exact conv_wb Tryd.underlying28 Tryd.underlying5 _ _) ?_; try (conv in (Act.put _ _ _) => simp only [Act.put, List.setIfInBounds_toArray, List.set_cons_succ, List.set_cons_zero]))
        | ((with_reducible refine g_at (d := 48) ?_); refine wpl_conv rfl (by exact conv_wb Tryd.underlying28 Tryd.underlying5 _ _) ?_; try (conv in (Act.put _ _ _) => simp only [Act.put, List.setIfInBounds_toArray, List.set_cons_succ, List.set_cons_zero]))
        | ((with_reducible refine g_at (d := 51) ?_); refine wpl_conv rfl (by exact conv_wb Tryd.underlying28 Tryd.underlying5 _ _) ?_; try (conv in (Act.put _ _ _) => simp only [Act.put, List.setIfInBounds_toArray, List.set_cons_succ, List.set_cons_zero]))
        | ((with_reducible refine g_at (d := 53) ?_); refine wpl_conv rfl (by exact conv_wb Tryd.underlying28 Tryd.underlying5 _ _) ?_; try (conv in (Act.put _ _ _) => simp only [Act.put, List.setIfInBounds_toArray, List.set_cons_succ, List.set_cons_zero]))
        | ((with_reducible refine g_at (d := 44) ?_); refine wpl_bin rfl rfl (by exact Go.Ch.run_shr32 _ _ _ _ _ 24 (by omega) _) ?_; try (conv in (Act.put _ _ _) => simp only [Act.put, List.setIfInBounds_toArray, List.set_cons_succ, List.set_cons_zero]))
        | ((with_reducible refine g_at (d := 47) ?_); refine wpl_bin rfl rfl (by exact Go.Ch.run_shr32 _ _ _ _ _ 16 (by omega) _) ?_; try (conv in (Act.put _ _ _) => simp only [Act.put, List.setIfInBounds_toArray, List.set_cons_succ, List.set_cons_zero]))
        | ((with_reducible refine g_at (d := 50) ?_); refine wpl_bin rfl rfl (by exact Go.Ch.run_shr32 _ _ _ _ _ 8 (by omega) _) ?_; try (conv in (Act.put _ _ _) => simp only [Act.put, List.setIfInBounds_toArray, List.set_cons_succ, List.set_cons_zero])))
      go_loopw [39, 8] (fun i o wr => ∃ k : Nat, k ≤ 8 ∧ i = .int .i64 k ∧ Own wr w.heap.size 5 o (((V.list.take k).flatMap bytesOf).map bU) ∧ Ext w wr) (fun i _ _ => 8 - (intOf i).toNat)
      case atStart => exact ⟨0, by omega, rfl, World.ownsRow_nil _ _ _ _, hx⟩
      case round =>
        obtain ⟨k, hk, rfl, ho, hx⟩ := hrel
        have hfl : ((V.list.take k).flatMap bytesOf).length ≤ 32 := by
          have : ∀ l : List UInt32, (l.flatMap bytesOf).length = 4 * l.length := fun l => by
            induction l with
            | nil => rfl
            | cons x l ih => simp [ih, bytesOf]; omega
          rw [this, List.length_take, len8]; omega
        by_cases hlt : k < 8
        · have hd8 : decide ((k : Int) < 8) = true := by simp; omega
          have e : (V.list.take (k + 1)).flatMap bytesOf = (V.list.take k).flatMap bytesOf ++ bytesOf (V.list.getD k 0) := by
            rw [List.take_succ_eq_append_getElem (by rw [len8]; exact hlt), List.flatMap_append]
            congr 1
            rw [List.getD_eq_getElem?_getD, List.getElem?_eq_getElem (by rw [len8]; exact hlt)]
            simp
          have hu := words_get V k hlt
          generalize V.list.getD k 0 = x at hu e
          generalize (V.list.take k).flatMap bytesOf = F at ho e hfl
          have HE := Lib.hid e
          have HU := Lib.hid hu
          clear e hu
          go_wp2_with (first
            | ((with_reducible refine g_at (d := 41) ?_); refine wpl_ixval rfl rfl Tryd.underlying29 Tryd.underlying28 rfl hi28 hs28 rfl (by omega) HU.out ?_; try (conv in (Act.put _ _ _) => simp only [Act.put, List.setIfInBounds_toArray, List.set_cons_succ, List.set_cons_zero]))
            | ((with_reducible refine g_at (d := 54) ?_); refine wpl_buildSlice (vs := [bU ((x >>> UInt32.ofNat 24).toUInt8), bU ((x >>> UInt32.ofNat 16).toUInt8), bU ((x >>> UInt32.ofNat 8).toUInt8), bU x.toUInt8]) Tryd.underlying22 hi5 hz5 hs5 rfl (xs := [(.tmp 45), (.tmp 48), (.tmp 51), (.tmp 53)]) rfl rfl rfl (by intro u hu; simp at hu; rcases hu with rfl | rfl | rfl | rfl <;> rfl) (by omega) ?_; intro v54 w54 h54 hx54 ha54; try (conv in (Act.put _ _ _) => simp only [Act.put, List.setIfInBounds_toArray, List.set_cons_succ, List.set_cons_zero]))
            | ((with_reducible refine g_at (d := 55) ?_); refine wpl_append (v := u8) rfl rfl Tryd.underlying22 hi5 hz5 hs5 hb5 rfl (ho.ext hx54) h54.sl (bU_one (bytesOf x)) (by first | omega | (simp <;> omega)) (by omega) (Nat.le_trans hx.size hx54.size) ?_; intro v55 w55 h55 hg55 ha55 hx55; try (conv in (Act.put _ _ _) => simp only [Act.put, List.setIfInBounds_toArray, List.set_cons_succ, List.set_cons_zero]))
            | ((with_reducible refine g_at (d := 13) ?_); refine wpl_len rfl Tryd.underlying22 (by first | assumption | exact Own.sl (by assumption) | exact Sl.back (by first | assumption | exact Ext.drew' (by assumption) | exact Ext.undrew (by assumption)) (by first | assumption | exact Own.sl (by assumption) | exact Sl.back (by first | assumption | exact Ext.drew' (by assumption) | exact Ext.undrew (by assumption)) (by first | assumption | exact Own.sl (by assumption) | exact Sl.back (by first | assumption | exact Ext.drew' (by assumption) | exact Ext.undrew (by assumption)) (by first | assumption | exact Own.sl (by assumption) | exact Sl.back (by first | assumption | exact Ext.drew' (by assumption) | exact Ext.undrew (by assumption)) (by first | assumption | exact Own.sl (by assumption) | exact Sl.back (by first | assumption | exact Ext.drew' (by assumption) | exact Ext.undrew (by assumption)) (by first | assumption | exact Own.sl (by assumption) | exact Sl.back (by first | assumption | exact Ext.drew' (by assumption) | exact Ext.undrew (by assumption)) (by first | assumption | exact Own.sl (by assumption) | exact Sl.back (by first | assumption | exact Ext.drew' (by assumption) | exact Ext.undrew (by assumption)) (by first | assumption | exact Own.sl (by assumption))))))))) (by first | rw [List.length_map] | rfl) ?_; try (conv in (Act.put _ _ _) => simp only [Act.put, List.setIfInBounds_toArray, List.set_cons_succ, List.set_cons_zero]))
            | ((with_reducible refine g_at (d := 19) ?_); refine wpl_buildSlice (vs := []) Tryd.underlying22 hi5 hz5 hs5 rfl (xs := []) rfl rfl rfl (by simp) (by omega) ?_; intro v19 w19 h19 hx19 ha19; try (conv in (Act.put _ _ _) => simp only [Act.put, List.setIfInBounds_toArray, List.set_cons_succ, List.set_cons_zero]))
            | ((with_reducible refine g_at (d := 27) ?_); refine wpl_len rfl Tryd.underlying22 (by first | assumption | exact Own.sl (by assumption) | exact Sl.back (by first | assumption | exact Ext.drew' (by assumption) | exact Ext.undrew (by assumption)) (by first | assumption | exact Own.sl (by assumption) | exact Sl.back (by first | assumption | exact Ext.drew' (by assumption) | exact Ext.undrew (by assumption)) (by first | assumption | exact Own.sl (by assumption) | exact Sl.back (by first | assumption | exact Ext.drew' (by assumption) | exact Ext.undrew (by assumption)) (by first | assumption | exact Own.sl (by assumption) | exact Sl.back (by first | assumption | exact Ext.drew' (by assumption) | exact Ext.undrew (by assumption)) (by first | assumption | exact Own.sl (by assumption) | exact Sl.back (by first | assumption | exact Ext.drew' (by assumption) | exact Ext.undrew (by assumption)) (by first | assumption | exact Own.sl (by assumption) | exact Sl.back (by first | assumption | exact Ext.drew' (by assumption) | exact Ext.undrew (by assumption)) (by first | assumption | exact Own.sl (by assumption) | exact Sl.back (by first | assumption | exact Ext.drew' (by assumption) | exact Ext.undrew (by assumption)) (by first | assumption | exact Own.sl (by assumption))))))))) (by first | rw [List.length_map] | rfl) ?_; try (conv in (Act.put _ _ _) => simp only [Act.put, List.setIfInBounds_toArray, List.set_cons_succ, List.set_cons_zero]))
            | ((with_reducible refine g_at (d := 34) ?_); refine wpl_slice_from rfl rfl Tryd.underlying22 hi5 hs5 (by first | assumption | exact Own.sl (by assumption) | exact Sl.back (by first | assumption | exact Ext.drew' (by assumption) | exact Ext.undrew (by assumption)) (by first | assumption | exact Own.sl (by assumption) | exact Sl.back (by first | assumption | exact Ext.drew' (by assumption) | exact Ext.undrew (by assumption)) (by first | assumption | exact Own.sl (by assumption) | exact Sl.back (by first | assumption | exact Ext.drew' (by assumption) | exact Ext.undrew (by assumption)) (by first | assumption | exact Own.sl (by assumption) | exact Sl.back (by first | assumption | exact Ext.drew' (by assumption) | exact Ext.undrew (by assumption)) (by first | assumption | exact Own.sl (by assumption) | exact Sl.back (by first | assumption | exact Ext.drew' (by assumption) | exact Ext.undrew (by assumption)) (by first | assumption | exact Own.sl (by assumption) | exact Sl.back (by first | assumption | exact Ext.drew' (by assumption) | exact Ext.undrew (by assumption)) (by first | assumption | exact Own.sl (by assumption) | exact Sl.back (by first | assumption | exact Ext.drew' (by assumption) | exact Ext.undrew (by assumption)) (by first | assumption | exact Own.sl (by assumption))))))))) rfl (by first | omega | (simp <;> omega)) ?_; intro v34 h34; (try simp only [← List.map_take, ← List.map_drop, List.take_zero, List.drop_zero] at h34); try (conv in (Act.put _ _ _) => simp only [Act.put, List.setIfInBounds_toArray, List.set_cons_succ, List.set_cons_zero]))
            | ((with_reducible refine g_at (d := 45) ?_); refine wpl_conv rfl (by exact conv_wb Tryd.underlying28 Tryd.underlying5 _ _) ?_; try (conv in (Act.put _ _ _) => simp only [Act.put, List.setIfInBounds_toArray, List.set_cons_succ, List.set_cons_zero]))
            | ((with_reducible refine g_at (d := 48) ?_); refine wpl_conv rfl (by exact conv_wb Tryd.underlying28 Tryd.underlying5 _ _) ?_; try (conv in (Act.put _ _ _) => simp only [Act.put, List.setIfInBounds_toArray, List.set_cons_succ, List.set_cons_zero]))
            | ((with_reducible refine g_at (d := 51) ?_); refine wpl_conv rfl (by exact conv_wb Tryd.underlying28 Tryd.underlying5 _ _) ?_; try (conv in (Act.put _ _ _) => simp only [Act.put, List.setIfInBounds_toArray, List.set_cons_succ, List.set_cons_zero]))
            | ((with_reducible refine g_at (d := 53) ?_); refine wpl_conv rfl (by exact conv_wb Tryd.underlying28 Tryd.underlying5 _ _) ?_; try (conv in (Act.put _ _ _) => simp only [Act.put, List.setIfInBounds_toArray, List.set_cons_succ, List.set_cons_zero]))
            | ((with_reducible refine g_at (d := 44) ?_); refine wpl_bin rfl rfl (by exact Go.Ch.run_shr32 _ _ _ _ _ 24 (by omega) _) ?_; try (conv in (Act.put _ _ _) => simp only [Act.put, List.setIfInBounds_toArray, List.set_cons_succ, List.set_cons_zero]))
            | ((with_reducible refine g_at (d := 47) ?_); refine wpl_bin rfl rfl (by exact Go.Ch.run_shr32 _ _ _ _ _ 16 (by omega) _) ?_; try (conv in (Act.put _ _ _) => simp only [Act.put, List.setIfInBounds_toArray, List.set_cons_succ, List.set_cons_zero]))
            | ((with_reducible refine g_at (d := 50) ?_); refine wpl_bin rfl rfl (by exact Go.Ch.run_shr32 _ _ _ _ _ 8 (by omega) _) ?_; try (conv in (Act.put _ _ _) => simp only [Act.put, List.setIfInBounds_toArray, List.set_cons_succ, List.set_cons_zero])))
          go_roundw
          case rel => exact ⟨k + 1, by omega, by go_num, by rw [HE.out, List.map_append]; exact h55, (hx.tr hx54).trans hx55⟩
          case measure => simp [intOf]; omega
        · obtain rfl : k = 8 := by omega
          have hd8 : decide (((8 : Nat) : Int) < 8) = false := by simp
          go_wp2
          go_ret
          refine ⟨_, rfl, hx, ?_⟩
          have e : digest consts begin8 l = (V.list.take 8).flatMap bytesOf := by
            unfold digest
            rw [HQ.out, HA.out, Nat.mul_div_cancel_left _ (by omega), HV.out, List.take_of_length_le (by rw [len8]; omega)]
          rw [e]; exact ho
end Go.Proofs.YtamddohbpdbdmaaDoor
end
section
set_option linter.unusedVariables false
set_option linter.unusedSimpArgs false
namespace Go.Proofs.YtamddohbpdbdmaaDoor
open Go.RowKit Go.Ch Go.Sx
theorem GK.keep {w w' : World} (hx : Ext w w') (h : GK w) : GK w' := h.ext hx
theorem sl_b {w : World} {e : TypeId} {l : List UInt8} {v : Value} {p : Pl} (h : InSl w e l.length (.b l) v p) : Sl w w.heap.size v (l.map bU) := h.sl (fun _ _ h => csR_b.1 h) (by simp)
def sum_ct : Ct := fun args H => match args with
  | [x] => (match aB H x with | some l => some ([l.length ≤ 100000], .c (.wh H.length), [⟨.row, 5, 1, (digest consts begin8 l).length, .b (digest consts begin8 l)⟩]) | none => none)
  | _ => none
theorem sum_h : FnOk Tryd.prog GK 19 sum_ct := by
  refine ⟨fun args H g av objs hF hg ρ w vals hG hp ha => ?_, _, Tryd.func19, by kernel_rfl, by kernel_rfl⟩
  unfold sum_ct at hF
  split at hF
  · split at hF
    · rename_i x l hl
      simp only [Option.some.injEq, Prod.mk.injEq] at hF
      obtain ⟨rfl, rfl, rfl⟩ := hF
      obtain ⟨v, vals, rfl, k, ha⟩ := F2.inv ha
      obtain rfl := F2.inv0 ha
      obtain ⟨p, hI⟩ := aB_ok hp hl k 5
      have hb : l.length ≤ 100000 := by simpa [allP] using hg
      exact calls_mono (sum_c w _ v l (sl_b hI) hb hG) fun v w' ⟨hx, hv⟩ => ⟨hx, left_row hv (fun _ => csR_b.2 rfl) (by simp)⟩
    · cases hF
  · cases hF
end Go.Proofs.YtamddohbpdbdmaaDoor
end
section
set_option linter.unusedVariables false
set_option linter.unusedSimpArgs false
namespace Go.Ch
open Go.ChangeShapes Go.WideShapes Go.RowKit
end Go.Ch
namespace Go.Proofs.YtamddohbpdbdmaaDoor
open Go.ChangeShapes Go.WideShapes Go.ChangeAt Go.RowKit Go.Ch
theorem words_cells : Tryd.prog.cellsOf 28 = 1 := by kernel_rfl
theorem own : ownKnob Tryd.prog.godebug = none := by kernel_rfl
theorem laidOut : laidOutB Tryd.prog = true := by kernel_rfl
theorem gK : Tryd.prog.globalNamed "charter/sha.constants" = some 0 := by kernel_rfl
theorem tK : (Tryd.prog.globals[0]?).map (·.type) = some 62 := by kernel_rfl
abbrev laidK : List (String × DataW Unit) := [("charter/sha.constants", Rows.laid_charter_sha_constants)]
theorem door_met (os : Os) (args : Array Value) : laidMetH Tryd.prog laidK ((World.doorLaid Tryd.prog 400 os).forCall (fun _ _ => 0) ⟨#[], args, []⟩).memory :=
  laidMetH_of_parts3 (fuel := 8) (laidMet_of_run' 8 (by kernel_rfl) (by kernel_rfl)) (by kernel_rfl) (by kernel_rfl)
theorem laid_is : (Rows.laid_charter_sha_constants : DataW Unit) = .agg (consts.map fun x => .lit (.int .u32 (x.toNat : Int))) := by rfl
theorem of_laid {W : World} (h : laidMetH Tryd.prog laidK W) : GK W := by
  rw [MakeChecks.laidMetH_plain _ _ _ (by kernel_rfl)] at h
  obtain ⟨ps, ⟨g0, t0, cs0, f0, p0, q0, hg0, ht0, hv0, hd0, _, _⟩, _, _⟩ := h
  obtain rfl := Option.some.inj (gK.symm.trans hg0)
  obtain rfl := Option.some.inj (tK.symm.trans ht0)
  obtain ⟨xs, m, _, hx1, hlen, hn, hel⟩ := DataW.trod_array Tryd.underlying62 hd0
  rw [laid_is] at hx1
  simp only [Prod.mk.injEq, DataW.agg.injEq] at hx1
  intro k hk
  have h1 := hel k hk
  rw [words_cells, List.getElem?_eq_getElem (by omega)] at h1
  obtain ⟨z, hz, hx, _⟩ := DataW.trod_int Tryd.underlying28 h1
  have h2 := congrArg (·[0]?) hz
  simp only [List.getElem?_take, Nat.mul_one, List.getElem?_drop, Nat.add_zero] at h2
  have h3 := congrArg (·[k]?) hx1.1
  simp only [List.getElem?_map] at h3
  rw [List.getElem?_eq_getElem (show k < xs.length by omega), List.getElem?_eq_getElem (show k < consts.length from hk), hx] at h3
  have h5 := World.var?_cell hg0 hv0 k
  rw [h5]
  simp only [Option.map_some, Option.some.injEq, DataW.lit.injEq, Lit.int.injEq, true_and] at h3
  have h4 : cs0.toList[k]? = some (.int .u32 z) := by simpa using h2
  rw [← Array.getElem?_toList, h4, ← h3, List.getD_eq_getElem?_getD, List.getElem?_eq_getElem (show k < consts.length from hk)]
  rfl
end Go.Proofs.YtamddohbpdbdmaaDoor
end
section
set_option linter.unusedVariables false
set_option linter.unusedSimpArgs false
namespace Go.Sx
open Go.RowKit Go.Ch
section
variable {P : Program} {T : Tab} {ft : Nat → FT} {ρ : Pls} {w w' : World} {bs : Bs} {w0 wB : World} {s s' : S} {a : Act} {N m : Nat}
def XS (wA wB : World) (a b : World) : Prop := a = b ∨ (a = wA ∧ b = wB)
theorem XS.tr {wA wB a b c : World} (h1 : XS wA wB a b) (h2 : XS wA wB b c) : XS wA wB a c := by
  rcases h1 with rfl | ⟨rfl, rfl⟩
  · exact h2
  · rcases h2 with rfl | ⟨_, rfl⟩
    · exact .inr ⟨rfl, rfl⟩
    · exact .inr ⟨rfl, rfl⟩
end
end Go.Sx
end
section
set_option linter.unusedVariables false
set_option linter.unusedSimpArgs false
namespace Go.Sx
open Go.RowKit Go.Ch
section
variable {P : Program} {T : Tab} {ρ ρ' : Pls} {w w' : World} {bs : Bs} {w0 : World} {s s' : S} {a : Act} {N : Nat}
theorem GlR.cons {gl : Fr} {x : AV} (j : Nat) (hx : avR ρ x (bs.gv j)) (h : GlR bs ρ gl) : GlR bs ρ ((1000000 + j, x) :: gl) := by
  intro t y hy
  rw [List.lookup_cons] at hy
  split at hy
  · rename_i e
    have e : t = 1000000 + j := by simpa using e
    subst e
    injection hy with hy; subst hy
    unfold gvOf
    rw [if_neg (by omega), Nat.add_sub_cancel_left]
    exact hx
  · exact h t y hy
def subC (lo n : Nat) : AV → Option AV
  | .c (.wh i) => some (.c (.sl i lo n))
  | .c (.sl i l0 _) => some (.c (.sl i (oddA l0 lo) n))
  | _ => none
def Sz1 (ρ : Pls) (x : AV) : Prop := ∀ i, (x = .c (.wh i) ∨ ∃ l0 n0, x = .c (.sl i l0 n0)) → (ρ i).sz = 1
theorem sz_live {H : Hp} (hp : HpR ρ w H) {i : Nat} {o : Oj} (h : liveS H i = some o) (h1 : o.sz = 1) : (ρ i).sz = 1 := by
  obtain ⟨h2, h3⟩ := liveS_ok h
  obtain ⟨⟨e1, _⟩, _⟩ := (hp i o h2).read (nd h3)
  rw [e1, h1]
theorem aB_sz {H : Hp} (hp : HpR ρ w H) {x : AV} {l : List UInt8} (h : aB H x = some l) : Sz1 ρ x := by
  intro i hi
  rcases hi with e | ⟨l0, n0, e⟩
  · subst e
    simp only [aB, viewB] at h
    split at h
    · rename_i o ho; split at h
      · rename_i h1 _; exact sz_live hp ho h1
      · cases h
    · cases h
  · subst e
    simp only [aB, viewB] at h
    split at h
    · rename_i o ho; split at h
      · rename_i h1 _; exact sz_live hp ho h1
      · cases h
    · cases h
theorem retB_ok {gv : Nat → Value} (hR : Rel N (noB gv) w s a w') {fn : Func} {t : Nat} (hf : fn.results = #[.tmp t]) {k lo n q : Nat} (hfr : s.fr.lookup t = some (.c (.sl k lo n))) (hgl : s.gl.lookup (1000000 + q) = some (.c (.wh k)))
    (hsz : (liveS s.H k).map (·.sz) = some 1) {ρ0 : Pls} {H : Hp} {x y : AV} (hx : avR ρ0 x (gv q)) (hz : Sz1 ρ0 x) (hy : subC lo n x = some y) :
    ∃ v, (results fn a.tmps).run P w' = .ok v w' ∧ Ext w w' ∧ ∃ ps, Left ρ0 w H y [] v w' ps := by
  obtain ⟨_, _, ρ, hr⟩ := hR
  have hv := hr.fr t _ hfr
  have hg := hr.gl _ _ hgl
  have hgv : gvOf (noB gv) (1000000 + q) = gv q := by
    unfold gvOf; rw [if_neg (by omega), Nat.add_sub_cancel_left]; rfl
  rw [hgv] at hg
  obtain ⟨o, ho, ho1⟩ : ∃ o, liveS s.H k = some o ∧ o.sz = 1 := by
    cases hl : liveS s.H k with
    | none => rw [hl] at hsz; cases hsz
    | some o => rw [hl] at hsz; injection hsz with hsz; exact ⟨o, rfl, hsz⟩
  have hs := sz_live hr.hp ho ho1
  obtain ⟨k1, A, c, hA, k2, k3, k4, k5⟩ := hv
  have hg' : gv q = .slice (ρ k).A (ρ k).n (ρ k).cap := hg
  refine ⟨_, results_tmp hf _ _ _, hr.kp.below, [], rfl, fun j o p ho => by simp at ho, ?_, fun j o p g ho => by simp at ho, fun j l o o' p p' g hjl ho => by simp at ho⟩
  have hu : updL ρ0 H.length [] = ρ0 := by funext i; unfold updL; split <;> simp
  rw [hu]
  unfold subC at hy
  split at hy
  · rename_i i
    injection hy with hy; subst hy
    have hx' : gv q = .slice (ρ0 i).A (ρ0 i).n (ρ0 i).cap := hx
    rw [hg'] at hx'
    injection hx' with e1 e2 e3
    have h1 := hz i (.inl rfl)
    show clR ρ0 (.sl i lo n) _
    exact ⟨by omega, A, c, hA, k2, k3, k4, fun h => by rw [k5 h, hs, e1, h1]⟩
  · rename_i i l0 n0
    injection hy with hy; subst hy
    obtain ⟨m1, A', c', hA', m2, m3, m4, m5⟩ := hx
    rw [hg'] at hA'
    injection hA' with e1 e2 e3
    have h1 := hz i (.inr ⟨l0, n0, rfl⟩)
    have ho : oddA l0 lo = l0 + lo := oddA_eq l0 lo
    show clR ρ0 (.sl i (oddA l0 lo) n) _
    rw [ho]
    refine ⟨by omega, A, c, hA, k2, k3, k4, fun h => ?_⟩
    rw [k5 h, hs, e1, m5 (by omega), h1]
    cases (ρ0 i).A with
    | none => rfl
    | some ad => simp [add_add]
  · cases hy
end
end Go.Sx
end
section
set_option linter.unusedVariables false
set_option linter.unusedSimpArgs false
namespace Go.Ch
open Go.RowKit
section
variable {P : Program} {ops : Array Oper} {X : World → World → Prop} {w0 : World}
def okRegionL (ops : Array Oper) (k n : Nat) (late : List Nat) : Bool :=
  (List.range ops.size).all fun i => match ops[i]? with
    | none => false
    | some o =>
      okEdges o (fun j => decide (j < i)) &&
      (if i < k then
        (match o.dst with | some d => decide (d < n) | none => true) &&
        ((List.range k).all fun j => match ops[j]? with
          | none => false
          | some oj =>
            (match o.dst, oj.dst with | some d, some d' => i == j || d != d' | _, _ => true) &&
            ((o.looksAt ops).all fun t => oj.dst != some t || (decide (j < i) && hasEdge o j) || (decide (i < j) && hasEdge oj i)))
       else (List.range i).all fun j => hasEdge o j || (decide (j < k) && ((i == k && late.contains j) || inC ops i ops.size j)))
theorem OkR.ofL {k n : Nat} {late : List Nat} (h : okRegionL ops k n late = true) (hk : k ≤ ops.size) : OkR ops k n := by
  unfold okRegionL at h
  rw [List.all_eq_true] at h
  have H : ∀ i o, ops[i]? = some o → _ := fun i o ho => by
    have hi := (Array.getElem?_eq_some_iff.1 ho).1
    have := h i (List.mem_range.2 hi)
    rw [ho] at this
    simp only [Bool.and_eq_true] at this
    exact this
  have G : ∀ i o, i < k → ops[i]? = some o → _ := fun i o hi ho => by
    have := (H i o ho).2
    rw [if_pos hi] at this
    simp only [Bool.and_eq_true, List.all_eq_true, List.mem_range] at this
    exact this
  refine ⟨fun i o ho => (H i o ho).1, fun i o d hi ho hd => ?_, fun i j o oj d hi hj hne ho hoj hd hd' => ?_, fun i j o oj t hi hj ho hoj ht hd => ?_, fun i o hi ho j hkj hj => ?_⟩
  · have := (G i o hi ho).1
    rw [hd] at this
    simpa using this
  · have := (G i o hi ho).2 j hj
    rw [hoj] at this
    simp only [hd, hd', Bool.and_eq_true, Bool.or_eq_true, beq_iff_eq, bne_self_eq_false, Bool.false_eq_true, or_false] at this
    exact hne this.1
  · have := (G i o hi ho).2 j hj
    rw [hoj] at this
    simp only [Bool.and_eq_true, List.all_eq_true] at this
    have h2 := this.2 t ht
    rw [hd] at h2
    simpa [Bool.or_eq_true] using h2
  · have := (H i o ho).2
    rw [if_neg (by omega)] at this
    rw [List.all_eq_true] at this
    have h3 := this j (List.mem_range.2 hj)
    simp only [Bool.or_eq_true, Bool.and_eq_true, decide_eq_true_eq] at h3
    rcases h3 with h3 | h3
    · exact h3
    · omega
end
end Go.Ch
end
section
set_option linter.unusedVariables false
set_option linter.unusedSimpArgs false
namespace Go.Sx
open Go.RowKit Go.Ch
section
variable {P : Program} {T : Tab} {ft : Nat → FT} {ρ : Pls} {w w' : World} {bs : Bs} {w0 : World} {s s' : S} {a a' : Act} {N : Nat} {ops : Array Oper} {asm : List (Nat × Bool)}
def vA (asm : List (Nat × Bool)) (i : Nat) (r : List Prop × AV) : Option (List Prop × AV) := match asm.lookup i with
  | none => some r
  | some bv => match r with
    | (g, .c (.s (.b e))) => some (g ++ [e = bv], .c (.s (.b bv)))
    | _ => none
def puV (T : Tab) (asm : List (Nat × Bool)) (i : Nat) (o : Oper) (s : S) : Option (List Prop × AV) := match vop T s.H (ev0 s.fr s.gl) o.op with
  | some r => vA asm i r
  | none => none
def puG (T : Tab) (ops : Array Oper) (asm : List (Nat × Bool)) (i : Nat) (o : Oper) (s : S) : Option (List Prop × AV) := match o.guard with
  | none => puV T asm i o s
  | some (j, want) => match (ops[j]?).bind (·.dst) with
    | none => none
    | some dj => match s.fr.lookup dj with
      | some (.c (.s (.b b))) => (match b, want with
        | true, true => puV T asm i o s
        | false, false => puV T asm i o s
        | true, false => some ([], .t [])
        | false, true => some ([], .t []))
      | some (.t []) => some ([], .t [])
      | _ => none
theorem get_look {x y : Array Value} (hs : x.size = y.size) {t : Nat} (h : x.getD t undef = y.getD t undef) : x[t]? = y[t]? := by
  by_cases ht : t < x.size
  · have hy : t < y.size := by omega
    simp only [Array.getD_eq_getD_getElem?, Array.getElem?_eq_getElem ht, Array.getElem?_eq_getElem hy, Option.getD_some] at h
    rw [Array.getElem?_eq_getElem ht, Array.getElem?_eq_getElem hy, h]
  · rw [Array.getElem?_eq_none (by omega), Array.getElem?_eq_none (by omega)]
theorem exec_look {o : Oper} (hs : ∀ cs b, o.op ≠ .select cs b) (hl : ∀ t ∈ o.looksAt ops, a.tmps.getD t undef = a'.tmps.getD t undef) : execOp a.eval o = execOp a'.eval o :=
  execOp_congr o hs fun x hx => by
    cases x with
    | tmp t => exact hl t (List.mem_append_left _ (List.mem_filterMap.2 ⟨.tmp t, by simpa using hx, rfl⟩))
    | _ => rfl
theorem wanted_look {o : Oper} (hs : a.tmps.size = a'.tmps.size) (hl : ∀ t ∈ o.looksAt ops, a.tmps.getD t undef = a'.tmps.getD t undef) : Region.wanted o (yielded ops a.tmps) = Region.wanted o (yielded ops a'.tmps) := by
  unfold Region.wanted
  cases hg : o.guard with
  | none => rfl
  | some gw =>
    obtain ⟨g, want⟩ := gw
    have hy : yielded ops a.tmps g = yielded ops a'.tmps g := by
      unfold yielded
      cases ht : (ops[g]?).bind (·.dst) with
      | none => rfl
      | some t =>
        have := get_look hs (hl t (by unfold Oper.looksAt; rw [hg]; simp [ht]))
        simp only [Option.bind_some, this]
    simp only [hy]
theorem wp_shift {o : Oper} {K : Act → World → Prop} {Q : Exit → Act → World → Prop} (he : execOp a.eval o = execOp a'.eval o) (hK : ∀ a w, K a w → a.defers = []) (h : o.wp P a' w K (fun _ _ _ => False)) :
    o.wp P a w (fun a1 w1 => ∃ v, a1 = a.put o.dst v ∧ K (a'.put o.dst v) w1) Q := by
  unfold Oper.wp at *
  rw [he]
  generalize (execOp a'.eval o).run P w = r at *
  cases r with
  | ok n w' =>
    cases n <;> simp only [Oper.upon] at h ⊢ <;>
    first
    | exact ⟨_, rfl, h⟩
    | exact Calls.mono h (fun e w'' he => by
        cases e with
        | returned v => exact ⟨v, rfl, he⟩
        | panicked c => exact he.elim
        | outgrown => obtain ⟨_, _, hf⟩ := he; exact hf.elim)
    | exact Rows.mono h (fun _ _ he => ⟨_, rfl, he⟩)
    | (have := hK _ _ h; rw [put_defers] at this; cases this)
  | halt x w' => cases x <;> simp only [Oper.upon] at h ⊢
theorem puV_ok (hT : TabOk P T) {i : Nat} {o : Oper} {g : List Prop} {z : AV} (h : puV T asm i o s = some (g, z)) (hg : allP g) (hR : RelA ρ bs w0 s a' w) :
    ∃ v, avR ρ z v ∧ (execOp a'.eval o).run P w = .ok (.value v) w := by
  obtain ⟨dst, op, ty, pos, aft, gd⟩ := o
  have hae := fun x av h => ev0_ok (ρ := ρ) (a := a') hR.fr hR.gl x av h
  unfold puV at h
  split at h
  · rename_i r hv
    obtain ⟨g1, z1⟩ := r
    unfold vA at h
    split at h
    · injection h with h; simp only [Prod.mk.injEq] at h; obtain ⟨rfl, rfl⟩ := h
      obtain ⟨u, hr, hu⟩ := vop_ok hT hR.hp hae hv hg dst ty pos aft gd
      exact ⟨u, hu, hr⟩
    · split at h
      · rename_i bv _ g2 e hge
        simp only [Prod.mk.injEq] at hge; obtain ⟨rfl, rfl⟩ := hge
        injection h with h; simp only [Prod.mk.injEq] at h; obtain ⟨rfl, rfl⟩ := h
        obtain ⟨ga, gb⟩ := allP_append.1 hg
        simp only [allP] at gb
        subst gb
        obtain ⟨u, hr, hu⟩ := vop_ok hT hR.hp hae hv ga dst ty pos aft gd
        exact ⟨u, hu, hr⟩
      · cases h
  · cases h
theorem puG_ok (hT : TabOk P T) {i : Nat} {o : Oper} (hs : ∀ cs b, o.op ≠ .select cs b) {g : List Prop} {z : AV} (h : puG T ops asm i o s = some (g, z)) (hg : allP g) (hR : RelA ρ bs w0 s a' w) :
    ∃ v, avR ρ z v ∧ ∀ (a : Act), a.tmps.size = a'.tmps.size → (∀ t ∈ o.looksAt ops, a.tmps.getD t undef = a'.tmps.getD t undef) → ∀ (K : Act → World → Prop) (Q : Exit → Act → World → Prop), K (a.put o.dst v) w →
      if Region.wanted o (yielded ops a.tmps) = true then o.wp P a w K Q ∨ (o.asks P a w ∧ LetsOut Q) else K (a.put o.dst undef) w := by
  have go : puV T asm i o s = some (g, z) → Region.wanted o (yielded ops a'.tmps) = true → ∃ v, avR ρ z v ∧ ∀ (a : Act), a.tmps.size = a'.tmps.size → (∀ t ∈ o.looksAt ops, a.tmps.getD t undef = a'.tmps.getD t undef) → ∀ (K : Act → World → Prop) (Q : Exit → Act → World → Prop), K (a.put o.dst v) w →
      if Region.wanted o (yielded ops a.tmps) = true then o.wp P a w K Q ∨ (o.asks P a w ∧ LetsOut Q) else K (a.put o.dst undef) w := fun h1 hw => by
    obtain ⟨v, hv, hr⟩ := puV_ok hT h1 hg hR
    refine ⟨v, hv, fun a hsz hl K Q hK => ?_⟩
    rw [wanted_look hsz hl, if_pos hw]
    refine .inl ?_
    unfold Oper.wp
    rw [exec_look hs hl, hr]
    exact hK
  have skip : (some (([] : List Prop), AV.t []) : Option (List Prop × AV)) = some (g, z) → Region.wanted o (yielded ops a'.tmps) = false → ∃ v, avR ρ z v ∧ ∀ (a : Act), a.tmps.size = a'.tmps.size → (∀ t ∈ o.looksAt ops, a.tmps.getD t undef = a'.tmps.getD t undef) → ∀ (K : Act → World → Prop) (Q : Exit → Act → World → Prop), K (a.put o.dst v) w →
      if Region.wanted o (yielded ops a.tmps) = true then o.wp P a w K Q ∨ (o.asks P a w ∧ LetsOut Q) else K (a.put o.dst undef) w := fun h1 hw => by
    injection h1 with h1; simp only [Prod.mk.injEq] at h1; obtain ⟨rfl, rfl⟩ := h1
    refine ⟨undef, ⟨[], F2.nil, rfl⟩, fun a hsz hl K Q hK => ?_⟩
    rw [wanted_look hsz hl, hw]
    exact hK
  unfold puG at h
  split at h
  · rename_i hgd
    exact go h (by unfold Region.wanted; rw [hgd])
  · rename_i j want hgd
    split at h
    · cases h
    · rename_i dj hdj
      split at h
      · rename_i b hb
        have hv : a'.tmps.getD dj undef = .bool b := hR.fr dj _ hb
        have hw := wanted_b hgd hdj hv
        split at h
        · exact go h hw
        · exact go h hw
        · exact skip h hw
        · exact skip h hw
      · rename_i hb
        have hv : avR ρ (.t []) (a'.tmps.getD dj undef) := hR.fr dj _ hb
        exact skip h (wanted_u hgd hdj (undef_of hv))
      · cases h
def runP (T : Tab) (N : Nat) (ops : Array Oper) (asm : List (Nat × Bool)) : List Nat → S → Option (List Prop × S)
  | [], s => some ([], s)
  | i :: is, s => match ops[i]? with
    | none => none
    | some o => match dOk N o.dst, puG T ops asm i o s with
      | true, some (g, z) => (match runP T N ops asm is ⟨putF s.fr o.dst z, s.gl, s.H⟩ with
        | some (g2, s2) => some (g ++ g2, s2)
        | none => none)
      | _, _ => none
theorem runP_ok (hT : TabOk P T) (hs : ∀ (i : Nat) (o : Oper), ops[i]? = some o → ∀ cs b, o.op ≠ .select cs b) (is : List Nat) : ∀ (g : List Prop) (s : S) (a : Act), runP T N ops asm is s = some (g, s') → allP g → Rel N bs w0 s a w →
    ∃ a', Rel N bs w0 s' a' w ∧ ∀ t, (∀ i ∈ is, ∀ o, ops[i]? = some o → o.dst ≠ some t) → a'.tmps.getD t undef = a.tmps.getD t undef := by
  induction is with
  | nil =>
    intro g s a h hg hR
    injection h with h; simp only [Prod.mk.injEq] at h; obtain ⟨rfl, rfl⟩ := h
    exact ⟨a, hR, fun _ _ => rfl⟩
  | cons i is ih =>
    intro g s a h hg hR
    simp only [runP] at h
    split at h
    · cases h
    · rename_i o ho
      split at h
      · rename_i g1 z hdk hp
        split at h
        · rename_i g2 s2 h2
          injection h with h; simp only [Prod.mk.injEq] at h; obtain ⟨rfl, rfl⟩ := h
          obtain ⟨ga, gb⟩ := allP_append.1 hg
          obtain ⟨r1, r2, ρ, r3⟩ := hR
          obtain ⟨v, hv, _⟩ := puG_ok hT (hs i o ho) hp ga r3
          obtain ⟨a2, hR2, hl⟩ := ih g2 _ (a.put o.dst v) h2 gb ⟨by rw [put_defers]; exact r1, by rw [put_size]; exact r2, ρ, r3.put hv (dOk_ok hdk r2)⟩
          refine ⟨a2, hR2, fun t ht => ?_⟩
          rw [hl t (fun j hj => ht j (List.mem_cons_of_mem _ hj)), getD_put_other _ _ _ _ (ht i List.mem_cons_self o ho)]
        · cases h
      · cases h
structure Ed where
  n : Nat
  m : Nat
  t : Nat
  ps : List Nat
  cs : List Co
  live : List Nat
  objs : List Nat
def stE (T : Tab) (ft : Nat → FT) (N : Nat) (ops : Array Oper) (asm : List (Nat × Bool)) (e : Ed) (s : S) : Option (List Prop × S) := match ops[e.m]? with
  | none => none
  | some o => match stG T ft N ops asm e.m o s with
    | none => none
    | some (g1, s1) => match runP T N ops asm e.ps s1 with
      | none => none
      | some (g2, s2) => match after e.cs e.live e.objs s2 with
        | none => none
        | some s3 => some (g1 ++ g2, s3)
def st0 (T : Tab) (N : Nat) (ops : Array Oper) (asm : List (Nat × Bool)) (ps : List Nat) (cs : List Co) (live objs : List Nat) (s : S) : Option (List Prop × S) := match runP T N ops asm ps s with
  | none => none
  | some (g, s1) => match after cs live objs s1 with
    | none => none
    | some s2 => some (g, s2)
def rdL (T : Tab) (ops : Array Oper) (asm : List (Nat × Bool)) (p : Nat) (s : S) : Option (Option (List Prop × AV)) := match ops[p]? with
  | some o => some (puG T ops asm p o s)
  | none => none
def rdR (ops : Array Oper) (g : List Prop) (p : Nat) (s : S) : Option (Option (List Prop × AV)) := match (ops[p]?).bind (·.dst) with
  | some d => (match s.fr.lookup d with | some z => some (some (g, z)) | none => none)
  | none => none
inductive AllE (T : Tab) (ft : Nat → FT) (N : Nat) (ops : Array Oper) (asm : List (Nat × Bool)) (sts : List S) (s : S) : List Ed → Prop
  | nil : AllE T ft N ops asm sts s []
  | cons {e : Ed} {l : List Ed} : (∃ g, stE T ft N ops asm e (sts.getD e.n s) = some (g, sts.getD e.t s) ∧ allP g) → AllE T ft N ops asm sts s l → AllE T ft N ops asm sts s (e :: l)
inductive AllR (T : Tab) (ops : Array Oper) (asm : List (Nat × Bool)) (sts : List S) (s : S) : List (Nat × Nat) → Prop
  | nil : AllR T ops asm sts s []
  | cons {k p : Nat} {l : List (Nat × Nat)} : (∃ g, rdL T ops asm p (sts.getD k s) = rdR ops g p (sts.getD k s) ∧ allP g) → AllR T ops asm sts s l → AllR T ops asm sts s ((k, p) :: l)
theorem AllE.mem {sts : List S} {l : List Ed} (h : AllE T ft N ops asm sts s l) : ∀ e ∈ l, ∃ g, stE T ft N ops asm e (sts.getD e.n s) = some (g, sts.getD e.t s) ∧ allP g := by
  induction h with
  | nil => intro e he; cases he
  | cons h1 _ ih =>
    intro e he
    rcases List.mem_cons.1 he with rfl | he
    · exact h1
    · exact ih e he
theorem AllR.mem {sts : List S} {l : List (Nat × Nat)} (h : AllR T ops asm sts s l) : ∀ e ∈ l, ∃ g, rdL T ops asm e.2 (sts.getD e.1 s) = rdR ops g e.2 (sts.getD e.1 s) ∧ allP g := by
  induction h with
  | nil => intro e he; cases he
  | cons h1 _ ih =>
    intro e he
    rcases List.mem_cons.1 he with rfl | he
    · exact h1
    · exact ih e he
def okOps (ops : Array Oper) (N : Nat) (pu : List Nat) : Bool :=
  (List.range ops.size).all fun i => match ops[i]? with
    | none => false
    | some o => okEdges o (fun j => decide (j < i)) && ((match o.op with | .select _ _ => false | _ => true) &&
        (((o.looksAt ops).all fun t => pu.all fun p => match ops[p]? with | some q => q.dst != some t || inC ops i ops.size p | none => true) &&
        (!pu.contains i || (match o.dst with | some d => decide (d < N) | none => false))))
def okNode (ops : Array Oper) (pu : List Nat) (es : List Ed) (rd : List (Nat × Nat)) (k : Nat) (dn : List Nat) : Bool :=
  (List.range ops.size).all fun i => match dn.contains i with
    | true => !pu.contains i || (rd.contains (k, i) || dn.any fun m => !pu.contains m && (decide (m < ops.size) && inC ops m ops.size i))
    | false => (!pu.contains i && es.any fun e => Nat.beq e.n k && Nat.beq e.m i) || (List.range ops.size).any fun j => hasE ops i j && !dn.contains j
def okEdge (pu : List Nat) (nodes : List (List Nat)) (e : Ed) : Bool := match nodes[e.n]?, nodes[e.t]? with
  | some dn, some dt => !pu.contains e.m && (!dn.contains e.m && (e.ps.all (fun p => pu.contains p && !dn.contains p) && (dt.all (fun i => Nat.beq i e.m || (e.ps.contains i || dn.contains i)) && (dn.all (fun i => dt.contains i) && dt.contains e.m))))
  | _, _ => false
def okPlan (ops : Array Oper) (N : Nat) (pu : List Nat) (nodes : List (List Nat)) (ps0 : List Nat) (es : List Ed) (rd : List (Nat × Nat)) (fin : Nat) : Bool :=
  okOps ops N pu && (((List.range nodes.length).all fun k => okNode ops pu es rd k (nodes.getD k [])) && (es.all (okEdge pu nodes) &&
    ((ps0.all fun p => pu.contains p) && (((nodes.getD 0 []).all fun p => pu.contains p) && (decide (0 < nodes.length) &&
      ((List.range nodes.length).all fun k => Nat.beq k fin || (List.range ops.size).any fun i => !(nodes.getD k []).contains i))))))
structure Pln (ops : Array Oper) (N : Nat) (pu : List Nat) (nodes : List (List Nat)) (ps0 : List Nat) (es : List Ed) (rd : List (Nat × Nat)) (fin : Nat) : Prop where
  edges : ∀ (i : Nat) (o : Oper), ops[i]? = some o → okEdges o (fun j => decide (j < i)) = true
  nosel : ∀ (i : Nat) (o : Oper), ops[i]? = some o → ∀ cs b, o.op ≠ .select cs b
  look : ∀ (i : Nat) (o : Oper), ops[i]? = some o → ∀ t ∈ o.looksAt ops, ∀ p, p ∈ pu → ∀ (q : Oper), ops[p]? = some q → q.dst = some t → inC ops i ops.size p = true
  pdst : ∀ (p : Nat) (o : Oper), p ∈ pu → ops[p]? = some o → ∃ d, o.dst = some d ∧ d < N
  nin : ∀ k dn, nodes[k]? = some dn → ∀ i, i < ops.size → i ∈ dn → i ∈ pu → (k, i) ∈ rd ∨ ∃ m ∈ dn, m ∉ pu ∧ m < ops.size ∧ inC ops m ops.size i = true
  nout : ∀ k dn, nodes[k]? = some dn → ∀ i, i < ops.size → i ∉ dn → (i ∉ pu ∧ ∃ e ∈ es, e.n = k ∧ e.m = i) ∨ ∃ j, hasE ops i j = true ∧ j ∉ dn
  edge : ∀ e ∈ es, ∃ dn dt, nodes[e.n]? = some dn ∧ nodes[e.t]? = some dt ∧ e.m ∉ pu ∧ e.m ∉ dn ∧ (∀ p ∈ e.ps, p ∈ pu ∧ p ∉ dn) ∧ (∀ i ∈ dt, i = e.m ∨ i ∈ e.ps ∨ i ∈ dn) ∧ (∀ i ∈ dn, i ∈ dt) ∧ e.m ∈ dt
  start : ∀ p ∈ ps0, p ∈ pu
  zero : ∃ dn, nodes[0]? = some dn ∧ ∀ p ∈ dn, p ∈ pu
  last : ∀ k dn, nodes[k]? = some dn → (∀ i, i < ops.size → i ∈ dn) → k = fin
theorem Pln.of {pu : List Nat} {nodes : List (List Nat)} {ps0 : List Nat} {es : List Ed} {rd : List (Nat × Nat)} {fin : Nat} (h : okPlan ops N pu nodes ps0 es rd fin = true) : Pln ops N pu nodes ps0 es rd fin := by
  unfold okPlan at h
  simp only [Bool.and_eq_true] at h
  obtain ⟨h1, h2, h3, h4, h5, h6, h7⟩ := h
  have H : ∀ (i : Nat) (o : Oper), ops[i]? = some o → _ := fun i o ho => by
    have hi := (Array.getElem?_eq_some_iff.1 ho).1
    have := List.all_eq_true.1 h1 i (List.mem_range.2 hi)
    rw [ho] at this
    simp only [Bool.and_eq_true] at this
    exact this
  have nd : ∀ k dn, nodes[k]? = some dn → k < nodes.length ∧ nodes.getD k [] = dn := fun k dn hk => ⟨(List.getElem?_eq_some_iff.1 hk).1, by rw [List.getD_eq_getElem?_getD, hk]; rfl⟩
  refine ⟨fun i o ho => (H i o ho).1, fun i o ho cs b e => ?_, fun i o ho t ht p hp q hq hd => ?_, fun p o hp ho => ?_, fun k dn hk i hi hin hpu => ?_, fun k dn hk i hi hin => ?_, fun e he => ?_, fun p hp => ?_, ⟨nodes.getD 0 [], ?_, fun p hp => ?_⟩, fun k dn hk hall => ?_⟩
  · have := (H i o ho).2.1
    rw [e] at this; cases this
  · have := List.all_eq_true.1 (List.all_eq_true.1 (H i o ho).2.2.1 t ht) p hp
    rw [hq] at this
    simp only [hd, Bool.or_eq_true, bne_self_eq_false, Bool.false_eq_true, false_or] at this
    exact this
  · have := (H p o ho).2.2.2
    rw [show pu.contains p = true by simpa using hp] at this
    simp only [Bool.not_true, Bool.false_or] at this
    cases hd : o.dst with
    | none => rw [hd] at this; cases this
    | some d => rw [hd] at this; exact ⟨d, rfl, by simpa using this⟩
  · obtain ⟨hk1, hk2⟩ := nd k dn hk
    have := List.all_eq_true.1 (List.all_eq_true.1 h2 k (List.mem_range.2 hk1)) i (List.mem_range.2 hi)
    rw [hk2, show dn.contains i = true by simpa using hin, show pu.contains i = true by simpa using hpu] at this
    simp only [Bool.not_true, Bool.false_or, Bool.or_eq_true, List.any_eq_true, Bool.and_eq_true, decide_eq_true_eq, Bool.not_eq_true'] at this
    rcases this with h | ⟨m, hm, h1, h2, h3⟩
    · exact .inl (by simpa using h)
    · exact .inr ⟨m, hm, by simpa using h1, h2, h3⟩
  · obtain ⟨hk1, hk2⟩ := nd k dn hk
    have := List.all_eq_true.1 (List.all_eq_true.1 h2 k (List.mem_range.2 hk1)) i (List.mem_range.2 hi)
    rw [hk2, show dn.contains i = false by simpa using hin] at this
    simp only [Bool.or_eq_true, List.any_eq_true, Bool.and_eq_true, Bool.not_eq_true'] at this
    rcases this with ⟨h, e, he, h1, h2⟩ | ⟨j, _, h1, h2⟩
    · exact .inl ⟨by simpa using h, e, he, Nat.eq_of_beq_eq_true h1, Nat.eq_of_beq_eq_true h2⟩
    · exact .inr ⟨j, h1, by simpa using h2⟩
  · have := List.all_eq_true.1 h3 e he
    unfold okEdge at this
    split at this
    · rename_i dn dt hn ht
      simp only [Bool.and_eq_true, List.all_eq_true, Bool.not_eq_true', Bool.or_eq_true] at this
      obtain ⟨g1, g2, g3, g4, g5, g6⟩ := this
      refine ⟨dn, dt, hn, ht, by simpa using g1, by simpa using g2, fun p hp => ?_, fun i hi => ?_, fun i hi => ?_, by simpa using g6⟩
      · have := g3 p hp; exact ⟨by simpa using this.1, by simpa using this.2⟩
      · rcases g4 i hi with h | h | h
        · exact .inl (Nat.eq_of_beq_eq_true h)
        · exact .inr (.inl (by simpa using h))
        · exact .inr (.inr (by simpa using h))
      · simpa using g5 i hi
    · cases this
  · simpa using List.all_eq_true.1 h4 p hp
  · have h6' : 0 < nodes.length := by simpa using h6
    rw [List.getD_eq_getElem?_getD, List.getElem?_eq_getElem h6']; rfl
  · simpa using List.all_eq_true.1 h5 p hp
  · obtain ⟨hk1, hk2⟩ := nd k dn hk
    have := List.all_eq_true.1 h7 k (List.mem_range.2 hk1)
    simp only [Bool.or_eq_true, List.any_eq_true, List.mem_range, Bool.not_eq_true'] at this
    rcases this with h | ⟨i, hi, h⟩
    · exact Nat.eq_of_beq_eq_true h
    · rw [hk2] at h
      have := hall i hi
      simp only [List.contains_eq_mem, decide_eq_false_iff_not] at h
      exact absurd this h
theorem okEdges_has {o : Oper} {g : Nat → Bool} {j : Nat} (hg : okEdges o g = true) (he : hasEdge o j = true) : g j = true := by
  unfold okEdges at hg
  unfold hasEdge at he
  obtain ⟨x, hx, hb⟩ := Array.any_eq_true'.1 he
  have := Array.all_eq_true'.1 hg x hx
  simp only [Bool.and_eq_true, beq_iff_eq] at hb
  rw [hb.1, hb.2] at this
  simpa using this
theorem okEdges_mono {o : Oper} {f g : Nat → Bool} (hf : okEdges o f = true) (hfg : ∀ j, f j = true → g j = true) : okEdges o g = true := by
  unfold okEdges at *
  rw [Array.all_eq_true'] at *
  intro x hx
  have := hf x hx
  simp only [Bool.or_eq_true, Bool.not_eq_true'] at this ⊢
  exact this.imp id (hfg _)
theorem getD_any {l : Array Bool} {i : Nat} (h : i < l.size) {d d' : Bool} : l.getD i d = l.getD i d' := by
  simp only [Array.getD_eq_getD_getElem?, Array.getElem?_eq_getElem h, Option.getD_some]
theorem Act.same {a a' : Act} (h : a.tmps.size = a'.tmps.size) (hd : a.defers = a'.defers) (ht : ∀ t, a.tmps.getD t undef = a'.tmps.getD t undef) : a = a' := by
  obtain ⟨x, d⟩ := a; obtain ⟨y, d'⟩ := a'
  simp only at h hd ht
  subst hd
  have : x = y := by
    apply Array.ext h
    intro i h1 h2
    have := ht i
    simpa only [Array.getD_eq_getD_getElem?, Array.getElem?_eq_getElem h1, Array.getElem?_eq_getElem h2, Option.getD_some] using this
  rw [this]
set_option maxHeartbeats 1000000 in
theorem any_G (hT : TabOk P T) (hF : ∀ i, FtOk P (Kp bs w0) (ft i)) {pu : List Nat} {nodes : List (List Nat)} {ps0 : List Nat} {es : List Ed} {rd : List (Nat × Nat)} {fin : Nat} (hp : Pln ops N pu nodes ps0 es rd fin) {sts : List S}
    (hE : AllE T ft N ops asm sts s es) (hD : AllR T ops asm sts s rd) {Q : Exit → Act → World → Prop} (hQ : ∀ a w, Rel N bs w0 (sts.getD fin s) a w → Q .normal a w) :
    ∀ (f k : Nat) (dn : List Nat) (listed : Array Bool) (a a' : Act) (w : World), listed.size = ops.size → (∀ j o, ops[j]? = some o → listed.getD j true = true → okEdges o (fun e => listed.getD e false) = true) →
      nodes[k]? = some dn → (∀ i, listed.getD i false = true → i ∈ dn) → (∀ i ∈ dn, i < ops.size → i ∉ pu → listed.getD i false = true) → cnt (fun j => listed.getD j true) ops.size ≤ f →
      Rel N bs w0 (sts.getD k s) a' w → a.tmps.size = N → a.defers = [] → (∀ t, (∀ p o, p ∈ pu → ops[p]? = some o → o.dst = some t → listed.getD p false = true) → a.tmps.getD t undef = a'.tmps.getD t undef) →
      wpAny P .any ops Q f listed a w := by
  intro f
  have fini : ∀ (k : Nat) (dn : List Nat) (listed : Array Bool) (a a' : Act) (w : World), listed.size = ops.size → nodes[k]? = some dn → (∀ i, listed.getD i false = true → i ∈ dn) → cnt (fun j => listed.getD j true) ops.size = 0 →
      Rel N bs w0 (sts.getD k s) a' w → a.tmps.size = N → a.defers = [] → (∀ t, (∀ p o, p ∈ pu → ops[p]? = some o → o.dst = some t → listed.getD p false = true) → a.tmps.getD t undef = a'.tmps.getD t undef) → Q .normal a w := by
    intro k dn listed a a' w hs hk hsub hc hR hn hd hl
    have hall := cnt_zero _ _ hc
    have hall' : ∀ i, i < ops.size → listed.getD i false = true := fun i hi => by rw [getD_any (d' := true) (by omega)]; exact hall i hi
    have := hp.last k dn hk (fun i hi => hsub i (hall' i hi))
    subst this
    have e : a = a' := Act.same (by rw [hn, hR.size]) (by rw [hd, hR.dfr]) (fun t => hl t (fun p o _ ho _ => hall' p (Array.getElem?_eq_some_iff.1 ho).1))
    rw [e]; exact hQ a' w hR
  induction f with
  | zero =>
    intro k dn listed a a' w hs hcl hk hsub hmn hc hR hn hd hl
    have hc0 : cnt (fun j => listed.getD j true) ops.size = 0 := by omega
    have hall := cnt_zero _ _ hc0
    refine ⟨List.eq_nil_iff_forall_not_mem.2 fun i hi => ?_, fini k dn listed a a' w hs hk hsub hc0 hR hn hd hl⟩
    obtain ⟨o, ho, h1, _⟩ := Go.Ch.mem_ready.1 hi
    have := hall i (Array.getElem?_eq_some_iff.1 ho).1
    rw [this] at h1; cases h1
  | succ f ih =>
    intro k dn listed a a' w hs hcl hk hsub hmn hc hR hn hd hl
    refine ⟨fun h0 => ?_, fun i hi => ?_⟩
    · refine fini k dn listed a a' w hs hk hsub ?_ hR hn hd hl
      -- all have come up, else the least that has not is ready
      have key : ∀ m, m ≤ ops.size → ∀ j < m, listed.getD j true = true := by
        intro m
        induction m with
        | zero => intro _ j hj; omega
        | succ m ihm =>
          intro hm j hj
          have hlt := ihm (by omega)
          by_cases e : j = m
          · subst e
            cases hj' : listed.getD j true
            · have hjs : j < ops.size := by omega
              have : j ∈ Region.ready .any ops listed := Go.Ch.mem_ready.2 ⟨_, Array.getElem?_eq_getElem hjs, hj', okEdges_mono (hp.edges j _ (Array.getElem?_eq_getElem hjs)) (fun q hq => by
                have hq' : q < j := by simpa using hq
                rw [getD_any (d' := true) (by omega)]; exact hlt q hq')⟩
              rw [h0] at this; cases this
            · rfl
          · exact hlt j (by omega)
      rw [cnt_congr ops.size (l' := fun _ => true) (fun j hj => key ops.size (Nat.le_refl _) j hj)]
      exact cnt_true _
    · obtain ⟨o, ho, h1, h2⟩ := Go.Ch.mem_ready.1 hi
      have hin := (Array.getElem?_eq_some_iff.1 ho).1
      have hgs : ∀ j d, (listed.setIfInBounds i true).getD j d = if j = i then true else listed.getD j d := fun j d => getD_set listed i d j (by omega)
      have hcl' : ∀ j oj, ops[j]? = some oj → (listed.setIfInBounds i true).getD j true = true → okEdges oj (fun e => (listed.setIfInBounds i true).getD e false) = true := fun j oj hoj hlj => by
        by_cases e : j = i
        · subst e
          rw [ho] at hoj; injection hoj with hoj; subst hoj
          exact okEdges_mono h2 (fun x hx => by rw [hgs]; split <;> simp_all)
        · rw [hgs, if_neg e] at hlj
          exact okEdges_mono (hcl j oj hoj hlj) (fun x hx => by rw [hgs]; split <;> simp_all)
      have hcnt' : cnt (fun j => (listed.setIfInBounds i true).getD j true) ops.size ≤ f := by
        have := cnt_set (fun j => listed.getD j true) i ops.size hin h1
        rw [cnt_congr ops.size (l' := fun j => if j = i then true else listed.getD j true) (fun j _ => hgs j true)]
        omega
      have hlk : ∀ t ∈ o.looksAt ops, a.tmps.getD t undef = a'.tmps.getD t undef := fun t ht => hl t (fun p q hpp hq hdq => inC_ok hcl hs ho h2 _ _ (hp.look i o ho t ht p hpp q hq hdq))
      have hsz : a.tmps.size = a'.tmps.size := by rw [hn, hR.size]
      have hnot : listed.getD i false = false := by rw [getD_any (d' := true) (by omega)]; exact h1
      unfold wpOp
      rw [ho]
      show if Region.wanted o (yielded ops a.tmps) = true then _ else _
      by_cases hpu : i ∈ pu
      · -- it leaves the world alone
        have hidn : i ∈ dn := by
          by_cases hdn : i ∈ dn
          · exact hdn
          · exfalso
            rcases hp.nout k dn hk i hin hdn with ⟨h, _⟩ | ⟨j, hj, hjn⟩
            · exact h hpu
            · unfold hasE at hj; rw [ho] at hj
              exact hjn (hsub j (okEdges_has h2 hj))
        have hrd : (k, i) ∈ rd := by
          rcases hp.nin k dn hk i hin hidn hpu with h | ⟨m, hm, hmp, hms, hmi⟩
          · exact h
          · exfalso
            have hml := hmn m hm hms hmp
            have hom : ops[m]? = some ops[m] := Array.getElem?_eq_getElem hms
            have := inC_ok hcl hs hom (hcl m _ hom (by rw [getD_any (d' := false) (by omega)]; exact hml)) _ _ hmi
            rw [this] at hnot; cases hnot
        obtain ⟨d, hdd, hdN⟩ := hp.pdst i o hpu ho
        obtain ⟨g, hg1, hg2⟩ := hD.mem _ hrd
        simp only [rdL, rdR, ho, Option.bind_some, hdd] at hg1
        split at hg1
        · rename_i z hz
          injection hg1 with hg1
          obtain ⟨r1, r2, ρ, r3⟩ := hR
          obtain ⟨v, hv, hrun⟩ := puG_ok hT (hp.nosel i o ho) hg1 hg2 r3
          refine hrun a hsz hlk _ _ (ih k dn _ _ (a'.put o.dst v) w (by simpa using hs) hcl' hk (fun j hj => ?_) (fun j hj hjs hjp => ?_) hcnt' ⟨by rw [put_defers]; exact r1, by rw [put_size]; exact r2, ρ, ?_, r3.gl, r3.hp, r3.sep, r3.own, r3.kp⟩ (by rw [put_size]; exact hn) (by rw [put_defers]; exact hd) (fun t ht => ?_))
          · rw [hgs] at hj
            split at hj
            · rename_i e; rw [e]; exact hidn
            · exact hsub j hj
          · rw [hgs]; split
            · rfl
            · exact hmn j hj hjs hjp
          · intro t x hx
            rw [hdd]
            by_cases e : d = t
            · subst e
              rw [hz] at hx; injection hx with hx; subst hx
              rw [getD_put_same _ _ _ (by rw [r2]; exact hdN)]; exact hv
            · rw [getD_put_other _ _ _ _ (by simpa using e)]; exact r3.fr t x hx
          · rw [hdd]
            by_cases e : d = t
            · subst e
              rw [getD_put_same _ _ _ (by rw [hn]; exact hdN), getD_put_same _ _ _ (by rw [r2]; exact hdN)]
            · rw [getD_put_other _ _ _ _ (by simpa using e), getD_put_other _ _ _ _ (by simpa using e)]
              refine hl t (fun p q hpp hq hdq => ?_)
              have := ht p q hpp hq hdq
              rw [hgs] at this
              split at this
              · rename_i e2; subst e2
                rw [ho] at hq; injection hq with hq; subst hq
                rw [hdd] at hdq; injection hdq with hdq; exact absurd hdq e
              · exact this
        · cases hg1
      · -- it may change the world
        have hidn : i ∉ dn := fun h => by have := hmn i h hin hpu; rw [this] at hnot; cases hnot
        obtain ⟨e, he, rfl, rfl⟩ : ∃ e ∈ es, e.n = k ∧ e.m = i := by
          rcases hp.nout k dn hk i hin hidn with ⟨_, h⟩ | ⟨j, hj, hjn⟩
          · exact h
          · exfalso
            unfold hasE at hj; rw [ho] at hj
            exact hjn (hsub j (okEdges_has h2 hj))
        obtain ⟨dn', dt, hn1, ht1, _, _, hps, hdt, hsb, hmd⟩ := hp.edge e he
        rw [hk] at hn1; injection hn1 with hn1; subst hn1
        obtain ⟨g, hg1, hg2⟩ := hE.mem e he
        unfold stE at hg1
        rw [ho] at hg1
        simp only at hg1
        split at hg1
        · cases hg1
        · rename_i g1 s1 hst
          split at hg1
          · cases hg1
          · rename_i g2 s2 hrp
            split at hg1
            · cases hg1
            · rename_i s3 haf
              injection hg1 with hg1; simp only [Prod.mk.injEq] at hg1; obtain ⟨rfl, rfl⟩ := hg1
              obtain ⟨ga, gb⟩ := allP_append.1 hg2
              have next : ∀ v w1, Rel N bs w0 s1 (a'.put o.dst v) w1 → wpAny P .any ops Q f (listed.setIfInBounds e.m true) (a.put o.dst v) w1 := fun v w1 hR1 => by
                obtain ⟨a2, hR2, hl2⟩ := runP_ok hT hp.nosel e.ps g2 s1 _ hrp gb hR1
                refine ih e.t dt _ _ a2 w1 (by simpa using hs) hcl' ht1 (fun j hj => ?_) (fun j hj hjs hjp => ?_) hcnt' (after_ok haf hR2) (by rw [put_size]; exact hn) (by rw [put_defers]; exact hd) (fun t ht => ?_)
                · rw [hgs] at hj
                  split at hj
                  · rename_i e2; rw [e2]; exact hmd
                  · exact hsb j (hsub j hj)
                · rw [hgs]; split
                  · rfl
                  · rename_i hne
                    rcases hdt j hj with h | h | h
                    · exact absurd h hne
                    · exact absurd (hps j h).1 hjp
                    · exact hmn j h hjs hjp
                · have hold : ∀ p q, p ∈ pu → ops[p]? = some q → q.dst = some t → listed.getD p false = true := fun p q hpp hq hdq => by
                    have := ht p q hpp hq hdq
                    rw [hgs] at this
                    split at this
                    · rename_i e2; subst e2; exact absurd hpp hpu
                    · exact this
                  rw [hl2 t (fun p hpp q hq hdq => by
                    have h3 := hps p hpp
                    exact h3.2 (hsub p (hold p q h3.1 hq hdq)))]
                  by_cases e2 : o.dst = some t
                  · rw [e2]
                    by_cases hlt : t < N
                    · rw [getD_put_same _ _ _ (by rw [hn]; exact hlt), getD_put_same _ _ _ (by rw [hR.size]; exact hlt)]
                    · have e3 : ∀ (x : Act), x.tmps.size = N → x.tmps.getD t undef = undef := fun x hx => by
                        rw [Array.getD_eq_getD_getElem?, Array.getElem?_eq_none (by rw [hx]; exact Nat.le_of_not_lt hlt)]; rfl
                      rw [e3 _ (by rw [put_size]; exact hn), e3 _ (by rw [put_size]; exact hR.size)]
                  · rw [getD_put_other _ _ _ _ e2, getD_put_other _ _ _ _ e2]
                    exact hl t hold
              have hgo := stG_ok hT hF hst ga hR (Q := fun _ _ _ => False) (K := fun a1 w1 => Rel N bs w0 s1 a1 w1) (fun _ _ h => h)
              rw [wanted_look hsz hlk]
              split at hgo
              · rename_i hw
                rw [if_pos hw]
                rcases hgo with hgo | ⟨_, _, _, hf⟩
                · exact .inl (Oper.wp_mono (fun a1 w1 ⟨v, hv, hR1⟩ => by rw [hv]; exact next v w1 hR1) (wp_shift (exec_look (hp.nosel e.m o ho) hlk) (fun _ _ h => h.dfr) hgo))
                · exact hf.elim
              · rename_i hw
                rw [if_neg hw]
                exact next undef w hgo
theorem W_regG (hT : TabOk P T) (hF : ∀ i, FtOk P (Kp bs w0) (ft i)) (hm : P.follows .mixedOrders = true) {id : Nat} {l : List Oper} (asm : List (Nat × Bool)) (pu : List Nat) (nodes : List (List Nat)) (sts : List S) (ps0 : List Nat) (es : List Ed) (rd : List (Nat × Nat)) (fin : Nat) (live0 objs0 : List Nat) (cs : List Co) (live objs : List Nat) {s' : S}
    (hr : okPlan l.toArray N pu nodes ps0 es rd fin = true)
    (h0 : ∃ g, st0 T N l.toArray asm ps0 [] live0 objs0 s = some (g, sts.getD 0 s) ∧ allP g)
    (hE : AllE T ft N l.toArray asm sts s es) (hD : AllR T l.toArray asm sts s rd)
    (hf : after cs live objs (sts.getD fin s) = some s')
    {Q : Exit → S → Prop} (hQ : Q .normal s') : W P N bs w0 (.region id l.toArray true) s Q := by
  intro a w hR
  have hp := Pln.of hr
  obtain ⟨g, hg1, hg2⟩ := h0
  have hR' : Rel N bs w0 s a w.drew := by
    obtain ⟨r1, r2, ρ, r3⟩ := hR
    exact ⟨r1, r2, ρ, r3.fr, r3.gl, fun i o ho => (r3.hp i o ho).keep fun _ _ _ => rfl, r3.sep, r3.own, r3.kp.drew⟩
  unfold st0 at hg1
  split at hg1
  · cases hg1
  rename_i g0 s1 hrun
  split at hg1
  · cases hg1
  rename_i s2 haf
  injection hg1 with hg1; simp only [Prod.mk.injEq] at hg1; obtain ⟨rfl, rfl⟩ := hg1
  obtain ⟨a', hR1, hl⟩ := runP_ok hT hp.nosel ps0 g0 s a hrun hg2 hR'
  have hR2 := after_ok haf hR1
  obtain ⟨dn, hdn, hdp⟩ := hp.zero
  have none' : ∀ i d, (Array.replicate l.toArray.size false).getD i d = true → d = true := fun i d h => by
    simp only [Array.getD_eq_getD_getElem?, Array.getElem?_replicate] at h
    split at h
    · cases h
    · exact h
  refine wp_region_any hm (any_G hT hF hp hE hD (Q := fun ex a' w' => ∃ s', Q ex s' ∧ Rel N bs w0 s' a' w') (fun a w h => ⟨s', hQ, after_ok hf h⟩) _ 0 dn _ a a' w.drew (by simp) (fun j o ho hlj => ?_) hdn (fun i hi => ?_) (fun i hi _ hn => absurd (hdp i hi) hn) ?_ hR2 hR.size hR.dfr (fun t ht => ?_))
  · have := (Array.getElem?_eq_some_iff.1 ho).1
    simp only [Array.getD_eq_getD_getElem?, Array.getElem?_replicate, if_pos this, Option.getD_some] at hlj
    cases hlj
  · have := none' i false hi; cases this
  · have : ∀ m, m ≤ l.toArray.size → cnt (fun j => (Array.replicate l.toArray.size false).getD j true) m ≤ m := by
      intro m
      induction m with
      | zero => intro _; exact Nat.le_refl _
      | succ m ih => intro hm; simp only [cnt]; have := ih (by omega); split <;> omega
    exact this _ (Nat.le_refl _)
  · refine (hl t (fun i hi o ho hd => ?_)).symm
    have := none' i false (ht i o (hp.start i hi) ho hd); cases this
end
end Go.Sx
end
section
set_option linter.unusedVariables false
set_option linter.unusedSimpArgs false
namespace Go.Proofs.YtamddohbpdbdmaaDoor
open Go.RowKit Go.Ch Go.Sx Go.Lib Go.Shelf Go.Proofs
theorem cat_u8 : (Tryd.prog.info? 5).map (fun i => (i.zero, i.size, i.bytes)) = some (some (.int .u8 0), 1, 1) := by kernel_rfl
set_option maxHeartbeats 2000000 in
set_option maxRecDepth 100000 in
theorem grow_0 (w : World) : Calls Tryd.prog 30 #[.slice none 0 0, .int .i64 0] w (Ret fun v w' => Ext w w' ∧ Own w' w.heap.size 5 v []) := by
  go_enter Tryd.func30, Tryd.ntmps30
  go_wp2
  go_ret
  exact ⟨_, rfl, Below.refl _ _, World.ownsRow_nil _ _ _ _⟩
set_option maxHeartbeats 4000000 in
set_option maxRecDepth 100000 in
theorem grow_1 (w : World) (n : Nat) (h0 : 0 < n) (hn : n ≤ 1000000000000) : Calls Tryd.prog 30 #[.slice none 0 0, .int .i64 n] w (Ret fun v w' => Ext w w' ∧ Own w' w.heap.size 5 v []) := by
  obtain ⟨i0, hi0, hz0, hs0, hb0⟩ := info_parts cat_u8
  have t22 : Tryd.prog.underlying 22 = some (.slice 5) := Tryd.underlying22
  have t3 : Tryd.prog.underlying 3 = some (.int .i64) := Tryd.underlying3
  have u22 := run_underlying t22
  have u3 := run_underlying t3
  have h1 : ¬ ((n : Int) < 0) := by omega
  have h3 : wrap64 ((n : Int) - 0) = (n : Int) := by unfold wrap64; omega
  have h4 : (n : Int) > 0 := by omega
  have hold : (Builtin.firstCells i0.size 0 (.slice none 0 0)).run Tryd.prog w.drew = .ok (#[] : Array Value) w.drew := run_firstCells_none w.drew i0.size 0 0 0
  have hrz : ∀ ty, (Builtin.append_ #[22, 3] ty #[.slice none 0 0, .int .i64 (n : Int)]).run Tryd.prog w =
      .ok (.slice (some ⟨w.heap.size, 0, none⟩) n (grownCap w n 0 5)) (w.drew.alloc (.cells (#[] ++ Builtin.zeroCells (Value.cells (.int .u8 0)) n ++ Builtin.zeroCells (Value.cells (.int .u8 0)) (grownCap w n 0 5 - n)) 5)) := fun ty => by
    have h := Lib.run_append_grow_zeros w 22 3 ty 5 i0 (.int .u8 0) .i64 .i64 t22 t3 hi0 hz0 none 0 0 [] hold n (by omega) (by omega) (by omega) (by omega)
      (by rw [hb0]; omega)
      (by have := growslice_fits (show 0 < n from h0) (show n * i0.bytes ≤ 140737488355328 by rw [hb0]; omega); simpa using this)
    simpa using h
  have hGn : n ≤ grownCap w n 0 5 := grownCap_ge w _ _ _
  have hGm := grownCap_le_maxLen w n 0 5 (by unfold maxLen; omega)
  obtain ⟨G, hG⟩ : ∃ G, G = grownCap w n 0 5 := ⟨_, rfl⟩
  rw [← hG] at hrz hGn hGm
  have hG63 : G ≤ 9223372036854775807 := by unfold maxLen at hGm; omega
  clear hold hG
  go_enter Tryd.func30, Tryd.ntmps30
  go_wp2_with (at_builtin; refine Lib.wpList_append_run _ rfl _ _ _ _ rfl _ _ rfl rfl _ _ (hrz _) ?_)
  all_goals
    go_ret
    refine ⟨_, rfl, ?_, rfl, .inr ⟨w.heap.size, G, Builtin.zeroCells #[Value.int .u8 0] n ++ Builtin.zeroCells #[Value.int .u8 0] (G - n), rfl, Nat.le_refl _, ?_, Nat.zero_le _, hGm, ?_, ?_⟩⟩
    · exact ((Below.refl _ _).alloc (Nat.le_refl _) _).drew
    · show (w.heap.push _)[w.heap.size]? = _
      exact Array.getElem?_push_size
    · have hz : ∀ k, (Builtin.zeroCells #[Value.int .u8 0] k).size = k := fun k => by simp [Builtin.zeroCells]
      rw [Array.size_append, hz, hz]; omega
    · simp
theorem grow_c (w : World) (n : Nat) (hn : n ≤ 1000000000000) : Calls Tryd.prog 30 #[.slice none 0 0, .int .i64 n] w (Ret fun v w' => Ext w w' ∧ Own w' w.heap.size 5 v []) := by
  cases n with
  | zero => exact grow_0 w
  | succ n => exact grow_1 w (n + 1) (Nat.succ_pos _) hn
theorem cat_sl : (Tryd.prog.info? 22).map (fun i => (i.zero, i.size, i.bytes)) = some (some (.slice none 0 0), 1, 24) := by kernel_rfl
def SlS (w : World) (vs : List Value) (ls : List (List UInt8)) : Prop := vs.length = ls.length ∧ ∀ i, i < ls.length → ∃ B, Sl w B (vs.getD i undef) ((ls.getD i []).map bU)
theorem flat_take (ls : List (List UInt8)) (k : Nat) (h : k < ls.length) : (ls.take (k + 1)).flatten = (ls.take k).flatten ++ ls.getD k [] := by
  rw [List.take_succ_eq_append_getElem h, List.flatten_append, List.getD_eq_getElem?_getD, List.getElem?_eq_getElem h]; simp
theorem flat_le (ls : List (List UInt8)) (k : Nat) : (ls.take k).flatten.length ≤ ls.flatten.length := by
  have : ls.flatten = (ls.take k).flatten ++ (ls.drop k).flatten := by rw [← List.flatten_append, List.take_append_drop]
  rw [this, List.length_append]; omega
theorem vget {vs : List Value} {k n : Nat} (hn : vs.length = n) (h : k < n) : vs[k]? = some (vs.getD k undef) := by
  rw [List.getD_eq_getElem?_getD, List.getElem?_eq_getElem (by omega)]; rfl
set_option maxHeartbeats 800000 in
theorem concat_c (w : World) (B : Nat) (v : Value) (vs : List Value) (ls : List (List UInt8)) (hv : Sl w B v vs) (hvs : SlS w vs ls) (hl : ls.length ≤ 1000000) (hb : ls.flatten.length ≤ 1000000000) :
    Calls Tryd.prog 20 #[v] w (Ret fun v' w' => Ext w w' ∧ Own w' w.heap.size 5 v' (ls.flatten.map bU)) := by
  obtain ⟨i5, hi5, hz5, hs5, hb5⟩ := info_parts cat_u8
  obtain ⟨i22, hi22, hz22, hs22, hb22⟩ := info_parts cat_sl
  have hvl := hvs.1
  go_enter Tryd.func20, Tryd.ntmps20
  go_wp2_with (first
    | ((with_reducible refine g_at (d := 10) ?_); refine wpl_len rfl Tryd.underlying55 hv (by first | rw [List.length_map] | rfl) ?_; try (conv in (Act.put _ _ _) => simp only [Act.put, List.setIfInBounds_toArray, List.set_cons_succ, List.set_cons_zero]))
    | ((with_reducible refine g_at (d := 17) ?_); refine wpl_len rfl Tryd.underlying22 (by first | assumption | exact Own.sl (by assumption) | exact Sl.back (by first | assumption | exact Ext.drew' (by assumption) | exact Ext.undrew (by assumption)) (by first | assumption | exact Own.sl (by assumption) | exact Sl.back (by first | assumption | exact Ext.drew' (by assumption) | exact Ext.undrew (by assumption)) (by first | assumption | exact Own.sl (by assumption) | exact Sl.back (by first | assumption | exact Ext.drew' (by assumption) | exact Ext.undrew (by assumption)) (by first | assumption | exact Own.sl (by assumption) | exact Sl.back (by first | assumption | exact Ext.drew' (by assumption) | exact Ext.undrew (by assumption)) (by first | assumption | exact Own.sl (by assumption) | exact Sl.back (by first | assumption | exact Ext.drew' (by assumption) | exact Ext.undrew (by assumption)) (by first | assumption | exact Own.sl (by assumption) | exact Sl.back (by first | assumption | exact Ext.drew' (by assumption) | exact Ext.undrew (by assumption)) (by first | assumption | exact Own.sl (by assumption) | exact Sl.back (by first | assumption | exact Ext.drew' (by assumption) | exact Ext.undrew (by assumption)) (by first | assumption | exact Own.sl (by assumption))))))))) (by first | rw [List.length_map] | rfl) ?_; try (conv in (Act.put _ _ _) => simp only [Act.put, List.setIfInBounds_toArray, List.set_cons_succ, List.set_cons_zero]))
    | ((with_reducible refine g_at (d := 26) ?_); refine wpl_len rfl Tryd.underlying55 (by first | assumption | exact Own.sl (by assumption) | exact Sl.back (by first | assumption | exact Ext.drew' (by assumption) | exact Ext.undrew (by assumption)) (by first | assumption | exact Own.sl (by assumption) | exact Sl.back (by first | assumption | exact Ext.drew' (by assumption) | exact Ext.undrew (by assumption)) (by first | assumption | exact Own.sl (by assumption) | exact Sl.back (by first | assumption | exact Ext.drew' (by assumption) | exact Ext.undrew (by assumption)) (by first | assumption | exact Own.sl (by assumption) | exact Sl.back (by first | assumption | exact Ext.drew' (by assumption) | exact Ext.undrew (by assumption)) (by first | assumption | exact Own.sl (by assumption) | exact Sl.back (by first | assumption | exact Ext.drew' (by assumption) | exact Ext.undrew (by assumption)) (by first | assumption | exact Own.sl (by assumption) | exact Sl.back (by first | assumption | exact Ext.drew' (by assumption) | exact Ext.undrew (by assumption)) (by first | assumption | exact Own.sl (by assumption) | exact Sl.back (by first | assumption | exact Ext.drew' (by assumption) | exact Ext.undrew (by assumption)) (by first | assumption | exact Own.sl (by assumption))))))))) (by first | rw [List.length_map] | rfl) ?_; try (conv in (Act.put _ _ _) => simp only [Act.put, List.setIfInBounds_toArray, List.set_cons_succ, List.set_cons_zero])))
  rw [hvl]
  go_loopw [3, 11] (fun s i wr => ∃ k : Nat, k ≤ ls.length ∧ i = .int .i64 k ∧ s = .int .i64 (((ls.take k).flatten.length : Nat) : Int) ∧ Ext w wr) (fun _ i _ => ls.length - (RowKit.intOf i).toNat)
  case atStart => exact ⟨0, Nat.zero_le _, rfl, by simp, Below.refl _ _⟩
  case round =>
    obtain ⟨k, hk, rfl, rfl, hx⟩ := hrel
    by_cases hlt : k < ls.length
    · obtain ⟨Bi, hsi⟩ := hvs.2 k hlt
      have hf := flat_take ls k hlt
      have hle := flat_le ls (k + 1)
      generalize ls.getD k [] = x at *
      rw [hf, List.length_append] at hle
      have hg : (ls.take (k + 1)).flatten.length = (ls.take k).flatten.length + x.length := by rw [hf, List.length_append]
      have HF := Lib.hid hg
      clear hf hg
      generalize (ls.take k).flatten.length = S at *
      have hw : wrap64 ((S : Int) + (x.length : Int)) = (S : Int) + (x.length : Int) := by unfold wrap64; omega
      have hneg : ¬ ((S : Int) + (x.length : Int) < 0) := Int.not_lt.2 (Int.add_nonneg (Int.natCast_nonneg _) (Int.natCast_nonneg _))
      go_wp2_with (first
        | ((with_reducible refine g_at (d := 13) ?_); refine wpl_index rfl rfl Tryd.underlying55 hi22 hs22 (hv.ext hx) rfl (vget hvl hlt) ?_; intro ad13 hb13 hc13; try (conv in (Act.put _ _ _) => simp only [Act.put, List.setIfInBounds_toArray, List.set_cons_succ, List.set_cons_zero]))
        | ((with_reducible refine g_at (d := 14) ?_); refine wpl_load1 rfl Tryd.underlying22 rfl hc13 ?_; try (conv in (Act.put _ _ _) => simp only [Act.put, List.setIfInBounds_toArray, List.set_cons_succ, List.set_cons_zero]))
        | ((with_reducible refine g_at (d := 17) ?_); refine wpl_len rfl Tryd.underlying22 (hsi.ext hx) (by first | rw [List.length_map] | rfl) ?_; try (conv in (Act.put _ _ _) => simp only [Act.put, List.setIfInBounds_toArray, List.set_cons_succ, List.set_cons_zero]))
        | ((with_reducible refine g_at (d := 10) ?_); refine wpl_len rfl Tryd.underlying55 (by first | assumption | exact Own.sl (by assumption) | exact Sl.back (by first | assumption | exact Ext.drew' (by assumption) | exact Ext.undrew (by assumption)) (by first | assumption | exact Own.sl (by assumption) | exact Sl.back (by first | assumption | exact Ext.drew' (by assumption) | exact Ext.undrew (by assumption)) (by first | assumption | exact Own.sl (by assumption) | exact Sl.back (by first | assumption | exact Ext.drew' (by assumption) | exact Ext.undrew (by assumption)) (by first | assumption | exact Own.sl (by assumption) | exact Sl.back (by first | assumption | exact Ext.drew' (by assumption) | exact Ext.undrew (by assumption)) (by first | assumption | exact Own.sl (by assumption) | exact Sl.back (by first | assumption | exact Ext.drew' (by assumption) | exact Ext.undrew (by assumption)) (by first | assumption | exact Own.sl (by assumption) | exact Sl.back (by first | assumption | exact Ext.drew' (by assumption) | exact Ext.undrew (by assumption)) (by first | assumption | exact Own.sl (by assumption) | exact Sl.back (by first | assumption | exact Ext.drew' (by assumption) | exact Ext.undrew (by assumption)) (by first | assumption | exact Own.sl (by assumption))))))))) (by first | rw [List.length_map] | rfl) ?_; try (conv in (Act.put _ _ _) => simp only [Act.put, List.setIfInBounds_toArray, List.set_cons_succ, List.set_cons_zero]))
        | ((with_reducible refine g_at (d := 26) ?_); refine wpl_len rfl Tryd.underlying55 (by first | assumption | exact Own.sl (by assumption) | exact Sl.back (by first | assumption | exact Ext.drew' (by assumption) | exact Ext.undrew (by assumption)) (by first | assumption | exact Own.sl (by assumption) | exact Sl.back (by first | assumption | exact Ext.drew' (by assumption) | exact Ext.undrew (by assumption)) (by first | assumption | exact Own.sl (by assumption) | exact Sl.back (by first | assumption | exact Ext.drew' (by assumption) | exact Ext.undrew (by assumption)) (by first | assumption | exact Own.sl (by assumption) | exact Sl.back (by first | assumption | exact Ext.drew' (by assumption) | exact Ext.undrew (by assumption)) (by first | assumption | exact Own.sl (by assumption) | exact Sl.back (by first | assumption | exact Ext.drew' (by assumption) | exact Ext.undrew (by assumption)) (by first | assumption | exact Own.sl (by assumption) | exact Sl.back (by first | assumption | exact Ext.drew' (by assumption) | exact Ext.undrew (by assumption)) (by first | assumption | exact Own.sl (by assumption) | exact Sl.back (by first | assumption | exact Ext.drew' (by assumption) | exact Ext.undrew (by assumption)) (by first | assumption | exact Own.sl (by assumption))))))))) (by first | rw [List.length_map] | rfl) ?_; try (conv in (Act.put _ _ _) => simp only [Act.put, List.setIfInBounds_toArray, List.set_cons_succ, List.set_cons_zero])))
      go_roundw
      case rel => exact ⟨k + 1, by omega, by go_num, by rw [HF.out]; go_num, hx⟩
      case measure => simp [RowKit.intOf]; omega
    · obtain rfl : k = ls.length := by omega
      rw [List.take_length]
      have HB := Lib.hid hb
      generalize hS : ls.flatten.length = S at *
      have HS := Lib.hid hS
      clear hS
      go_wp2_with (first
        | ((with_reducible refine g_at (d := 24) ?_); refine wpl_call Tryd.func30 (by kernel_rfl) (by kernel_rfl) rfl (grow_c wr S (Nat.le_trans HB.out (by decide))) ?_; rintro v24 w24 ⟨hx24, h24⟩; try (conv in (Act.put _ _ _) => simp only [Act.put, List.setIfInBounds_toArray, List.set_cons_succ, List.set_cons_zero]))
        | ((with_reducible refine g_at (d := 26) ?_); refine wpl_len rfl Tryd.underlying55 (hv.ext (hx.tr hx24)) (by first | rw [List.length_map] | rfl) ?_; try (conv in (Act.put _ _ _) => simp only [Act.put, List.setIfInBounds_toArray, List.set_cons_succ, List.set_cons_zero]))
        | ((with_reducible refine g_at (d := 10) ?_); refine wpl_len rfl Tryd.underlying55 (by first | assumption | exact Own.sl (by assumption) | exact Sl.back (by first | assumption | exact Ext.drew' (by assumption) | exact Ext.undrew (by assumption)) (by first | assumption | exact Own.sl (by assumption) | exact Sl.back (by first | assumption | exact Ext.drew' (by assumption) | exact Ext.undrew (by assumption)) (by first | assumption | exact Own.sl (by assumption) | exact Sl.back (by first | assumption | exact Ext.drew' (by assumption) | exact Ext.undrew (by assumption)) (by first | assumption | exact Own.sl (by assumption) | exact Sl.back (by first | assumption | exact Ext.drew' (by assumption) | exact Ext.undrew (by assumption)) (by first | assumption | exact Own.sl (by assumption) | exact Sl.back (by first | assumption | exact Ext.drew' (by assumption) | exact Ext.undrew (by assumption)) (by first | assumption | exact Own.sl (by assumption) | exact Sl.back (by first | assumption | exact Ext.drew' (by assumption) | exact Ext.undrew (by assumption)) (by first | assumption | exact Own.sl (by assumption) | exact Sl.back (by first | assumption | exact Ext.drew' (by assumption) | exact Ext.undrew (by assumption)) (by first | assumption | exact Own.sl (by assumption))))))))) (by first | rw [List.length_map] | rfl) ?_; try (conv in (Act.put _ _ _) => simp only [Act.put, List.setIfInBounds_toArray, List.set_cons_succ, List.set_cons_zero]))
        | ((with_reducible refine g_at (d := 17) ?_); refine wpl_len rfl Tryd.underlying22 (by first | assumption | exact Own.sl (by assumption) | exact Sl.back (by first | assumption | exact Ext.drew' (by assumption) | exact Ext.undrew (by assumption)) (by first | assumption | exact Own.sl (by assumption) | exact Sl.back (by first | assumption | exact Ext.drew' (by assumption) | exact Ext.undrew (by assumption)) (by first | assumption | exact Own.sl (by assumption) | exact Sl.back (by first | assumption | exact Ext.drew' (by assumption) | exact Ext.undrew (by assumption)) (by first | assumption | exact Own.sl (by assumption) | exact Sl.back (by first | assumption | exact Ext.drew' (by assumption) | exact Ext.undrew (by assumption)) (by first | assumption | exact Own.sl (by assumption) | exact Sl.back (by first | assumption | exact Ext.drew' (by assumption) | exact Ext.undrew (by assumption)) (by first | assumption | exact Own.sl (by assumption) | exact Sl.back (by first | assumption | exact Ext.drew' (by assumption) | exact Ext.undrew (by assumption)) (by first | assumption | exact Own.sl (by assumption) | exact Sl.back (by first | assumption | exact Ext.drew' (by assumption) | exact Ext.undrew (by assumption)) (by first | assumption | exact Own.sl (by assumption))))))))) (by first | rw [List.length_map] | rfl) ?_; try (conv in (Act.put _ _ _) => simp only [Act.put, List.setIfInBounds_toArray, List.set_cons_succ, List.set_cons_zero])))
      rw [hvl]
      have hxx := hx.tr hx24
      have ho0 := h24.down hx.size
      clear hx hx24 h24
      go_loopw [6, 27] (fun o i wq => ∃ k : Nat, k ≤ ls.length ∧ i = .int .i64 k ∧ Own wq w.heap.size 5 o ((ls.take k).flatten.map bU) ∧ Ext w wq) (fun _ i _ => ls.length - (RowKit.intOf i).toNat)
      case atStart => exact ⟨0, Nat.zero_le _, rfl, by simpa using ho0, hxx⟩
      case round =>
        obtain ⟨k, hk, rfl, ho, hx⟩ := hrel
        by_cases hlt : k < ls.length
        · obtain ⟨Bi, hsi⟩ := hvs.2 k hlt
          have hf := flat_take ls k hlt
          have hle := flat_le ls (k + 1)
          generalize ls.getD k [] = x at *
          rw [hf, List.length_append] at hle
          have HF := Lib.hid hf
          clear hf
          generalize (ls.take k).flatten = X at *
          have hb9 : (List.map bU X).length + (List.map bU x).length ≤ 1000000000 := by rw [List.length_map, List.length_map]; have h1 := HS.out; have h2 := HB.out; omega
          go_wp2_with (first
            | ((with_reducible refine g_at (d := 29) ?_); refine wpl_index rfl rfl Tryd.underlying55 hi22 hs22 (hv.ext hx) rfl (vget hvl hlt) ?_; intro ad29 hb29 hc29; try (conv in (Act.put _ _ _) => simp only [Act.put, List.setIfInBounds_toArray, List.set_cons_succ, List.set_cons_zero]))
            | ((with_reducible refine g_at (d := 30) ?_); refine wpl_load1 rfl Tryd.underlying22 rfl hc29 ?_; try (conv in (Act.put _ _ _) => simp only [Act.put, List.setIfInBounds_toArray, List.set_cons_succ, List.set_cons_zero]))
            | ((with_reducible refine g_at (d := 33) ?_); refine wpl_append (v := u6) rfl rfl Tryd.underlying22 hi5 hz5 hs5 hb5 rfl ho (hsi.ext hx) (bU_one x) (by first | omega | (simp <;> omega)) (by omega) hx.size ?_; intro v33 w33 h33 hg33 ha33 hx33; try (conv in (Act.put _ _ _) => simp only [Act.put, List.setIfInBounds_toArray, List.set_cons_succ, List.set_cons_zero]))
            | ((with_reducible refine g_at (d := 10) ?_); refine wpl_len rfl Tryd.underlying55 (by first | assumption | exact Own.sl (by assumption) | exact Sl.back (by first | assumption | exact Ext.drew' (by assumption) | exact Ext.undrew (by assumption)) (by first | assumption | exact Own.sl (by assumption) | exact Sl.back (by first | assumption | exact Ext.drew' (by assumption) | exact Ext.undrew (by assumption)) (by first | assumption | exact Own.sl (by assumption) | exact Sl.back (by first | assumption | exact Ext.drew' (by assumption) | exact Ext.undrew (by assumption)) (by first | assumption | exact Own.sl (by assumption) | exact Sl.back (by first | assumption | exact Ext.drew' (by assumption) | exact Ext.undrew (by assumption)) (by first | assumption | exact Own.sl (by assumption) | exact Sl.back (by first | assumption | exact Ext.drew' (by assumption) | exact Ext.undrew (by assumption)) (by first | assumption | exact Own.sl (by assumption) | exact Sl.back (by first | assumption | exact Ext.drew' (by assumption) | exact Ext.undrew (by assumption)) (by first | assumption | exact Own.sl (by assumption) | exact Sl.back (by first | assumption | exact Ext.drew' (by assumption) | exact Ext.undrew (by assumption)) (by first | assumption | exact Own.sl (by assumption))))))))) (by first | rw [List.length_map] | rfl) ?_; try (conv in (Act.put _ _ _) => simp only [Act.put, List.setIfInBounds_toArray, List.set_cons_succ, List.set_cons_zero]))
            | ((with_reducible refine g_at (d := 17) ?_); refine wpl_len rfl Tryd.underlying22 (by first | assumption | exact Own.sl (by assumption) | exact Sl.back (by first | assumption | exact Ext.drew' (by assumption) | exact Ext.undrew (by assumption)) (by first | assumption | exact Own.sl (by assumption) | exact Sl.back (by first | assumption | exact Ext.drew' (by assumption) | exact Ext.undrew (by assumption)) (by first | assumption | exact Own.sl (by assumption) | exact Sl.back (by first | assumption | exact Ext.drew' (by assumption) | exact Ext.undrew (by assumption)) (by first | assumption | exact Own.sl (by assumption) | exact Sl.back (by first | assumption | exact Ext.drew' (by assumption) | exact Ext.undrew (by assumption)) (by first | assumption | exact Own.sl (by assumption) | exact Sl.back (by first | assumption | exact Ext.drew' (by assumption) | exact Ext.undrew (by assumption)) (by first | assumption | exact Own.sl (by assumption) | exact Sl.back (by first | assumption | exact Ext.drew' (by assumption) | exact Ext.undrew (by assumption)) (by first | assumption | exact Own.sl (by assumption) | exact Sl.back (by first | assumption | exact Ext.drew' (by assumption) | exact Ext.undrew (by assumption)) (by first | assumption | exact Own.sl (by assumption))))))))) (by first | rw [List.length_map] | rfl) ?_; try (conv in (Act.put _ _ _) => simp only [Act.put, List.setIfInBounds_toArray, List.set_cons_succ, List.set_cons_zero]))
            | ((with_reducible refine g_at (d := 26) ?_); refine wpl_len rfl Tryd.underlying55 (by first | assumption | exact Own.sl (by assumption) | exact Sl.back (by first | assumption | exact Ext.drew' (by assumption) | exact Ext.undrew (by assumption)) (by first | assumption | exact Own.sl (by assumption) | exact Sl.back (by first | assumption | exact Ext.drew' (by assumption) | exact Ext.undrew (by assumption)) (by first | assumption | exact Own.sl (by assumption) | exact Sl.back (by first | assumption | exact Ext.drew' (by assumption) | exact Ext.undrew (by assumption)) (by first | assumption | exact Own.sl (by assumption) | exact Sl.back (by first | assumption | exact Ext.drew' (by assumption) | exact Ext.undrew (by assumption)) (by first | assumption | exact Own.sl (by assumption) | exact Sl.back (by first | assumption | exact Ext.drew' (by assumption) | exact Ext.undrew (by assumption)) (by first | assumption | exact Own.sl (by assumption) | exact Sl.back (by first | assumption | exact Ext.drew' (by assumption) | exact Ext.undrew (by assumption)) (by first | assumption | exact Own.sl (by assumption) | exact Sl.back (by first | assumption | exact Ext.drew' (by assumption) | exact Ext.undrew (by assumption)) (by first | assumption | exact Own.sl (by assumption))))))))) (by first | rw [List.length_map] | rfl) ?_; try (conv in (Act.put _ _ _) => simp only [Act.put, List.setIfInBounds_toArray, List.set_cons_succ, List.set_cons_zero])))
          go_roundw
          case rel => exact ⟨k + 1, by omega, by go_num, by rw [HF.out, List.map_append]; exact h33, hx.trans hx33⟩
          case measure => simp [RowKit.intOf]; omega
        · obtain rfl : k = ls.length := by omega
          rw [List.take_length] at ho
          go_wp2
          go_ret
          exact ⟨_, rfl, hx, ho⟩
end Go.Proofs.YtamddohbpdbdmaaDoor
end
section
set_option linter.unusedVariables false
set_option linter.unusedSimpArgs false
namespace Go.Proofs.YtamddohbpdbdmaaDoor
open Go.RowKit Go.Ch Go.Sx
theorem cloneb_info : (Tryd.prog.info? 5).map (fun i => (i.zero, i.size, i.bytes)) = some (some (.int .u8 0), 1, 1) := by kernel_rfl
set_option maxHeartbeats 400000 in
set_option maxRecDepth 100000 in
theorem cloneb_c (w : World) (B : Nat) (v : Value) (l : List UInt8) (hv : Sl w B v (l.map bU)) (hl : l.length ≤ 1000000000000) :
    Calls Tryd.prog 26 #[v] w (Ret fun v' w' => Ext w w' ∧ Own w' w.heap.size 5 v' (l.map bU)) := by
  obtain ⟨i5, hi5, hz5, hs5, hb5⟩ := info_parts cloneb_info
  go_enter Tryd.func26, Tryd.ntmps26
  go_wp2_with (first
    | ((with_reducible refine g_at (d := 4) ?_); refine wpl_eq_nil rfl Tryd.underlying22 hv ?_; intro b4 hb4; try (conv in (Act.put _ _ _) => simp only [Act.put, List.setIfInBounds_toArray, List.set_cons_succ, List.set_cons_zero]))
    | ((with_reducible refine g_at (d := 5) ?_); refine wpl_buildSlice (vs := []) Tryd.underlying22 hi5 hz5 hs5 rfl (xs := []) rfl rfl rfl (by simp) (by omega) ?_; intro v5 w5 h5 hx5 ha5; try (conv in (Act.put _ _ _) => simp only [Act.put, List.setIfInBounds_toArray, List.set_cons_succ, List.set_cons_zero]))
    | ((with_reducible refine g_at (d := 7) ?_); refine wpl_append (v := v5) rfl rfl Tryd.underlying22 hi5 hz5 hs5 hb5 rfl h5 (hv.ext hx5) (bU_one l) (by first | omega | (simp <;> omega)) (by omega) hx5.size ?_; intro v7 w7 h7 hg7 ha7 hx7; try (conv in (Act.put _ _ _) => simp only [Act.put, List.setIfInBounds_toArray, List.set_cons_succ, List.set_cons_zero])))
  · go_ret
    have := hb4 (by assumption)
    exact ⟨_, rfl, Below.refl _ _, by rw [this]; exact World.ownsRow_nil _ _ _ _⟩
  · go_ret
    exact ⟨_, rfl, hx5.trans hx7, by simpa using h7⟩
def cloneb_ct : Ct := fun args H => match args with
  | [x] => (match aB H x with | some l => some ([l.length ≤ 1000000000000], .c (.wh H.length), [⟨.row, 5, 1, l.length, .b l⟩]) | none => none)
  | _ => none
theorem cloneb_h : FnOk Tryd.prog Tr 26 cloneb_ct := by
  refine ⟨fun args H g av objs hF hg ρ w vals hG hp ha => ?_, _, Tryd.func26, by kernel_rfl, by kernel_rfl⟩
  unfold cloneb_ct at hF
  split at hF
  · split at hF
    · rename_i x l hl
      simp only [Option.some.injEq, Prod.mk.injEq] at hF
      obtain ⟨rfl, rfl, rfl⟩ := hF
      obtain ⟨v, vals, rfl, k, ha⟩ := F2.inv ha
      obtain rfl := F2.inv0 ha
      obtain ⟨p, hI⟩ := aB_ok hp hl k 5
      have hb : l.length ≤ 1000000000000 := by simpa [allP] using hg
      exact calls_mono (cloneb_c w _ v l (hI.sl (fun _ _ h => csR_b.1 h) (by simp)) hb) fun v w' ⟨hx, hv⟩ => ⟨hx, left_row hv (fun _ => csR_b.2 rfl) (by simp)⟩
    · cases hF
  · cases hF
end Go.Proofs.YtamddohbpdbdmaaDoor
end
section
set_option linter.unusedVariables false
set_option linter.unusedSimpArgs false
namespace Go.Proofs.YtamddohbpdbdmaaDoor
open Go.RowKit Go.Ch Go.Sx
theorem slr_sl {w : World} {v : Value} {n : Nat} {vs : List Value} (h : SlR w v n 1 vs) : Sl w w.heap.size v vs := by
  obtain ⟨hl, A, c, rfl, h1, h2, h3, h4⟩ := h
  have hn : vs.length = n := by omega
  subst hn
  refine ⟨Nat.le_refl _, A, c, rfl, h1, h2, h3, fun ad had j u hu => ⟨?_, h4 ad had j u hu⟩⟩
  have := World.block_lt_of_cell? _ _ (h4 ad had j u hu)
  rwa [block_add] at this
def aLs (H : Hp) : List Cl → Option (List (List UInt8))
  | [] => some []
  | c :: cs => (match aB H (.c c), aLs H cs with | some l, some ls => some (l :: ls) | _, _ => none)
theorem aLs_ok {ρ : Pls} {w : World} {H : Hp} (hp : HpR ρ w H) : ∀ {cs : List Cl} {ls : List (List UInt8)} {vs : List Value}, aLs H cs = some ls → F2 (clR ρ) cs vs → SlS w vs ls
  | [], ls, vs, h, hv => by
    obtain rfl := F2.unnil hv
    simp only [aLs, Option.some.injEq] at h
    subst h
    exact ⟨rfl, fun i hi => by simp at hi⟩
  | c :: cs, ls, vs, h, hv => by
    obtain ⟨v, vs', rfl, hc, hvs⟩ := F2.uncons hv
    simp only [aLs] at h
    split at h
    · rename_i l ls' hl hls
      injection h with h; subst h
      obtain ⟨h1, h2⟩ := aLs_ok hp hls hvs
      obtain ⟨p, hI⟩ := aB_ok hp hl hc 5
      have hs := hI.sl (fun _ _ h => csR_b.1 h) (by simp)
      refine ⟨by simp [h1], fun i hi => ?_⟩
      cases i with
      | zero => exact ⟨_, hs⟩
      | succ i => exact h2 i (by simpa using hi)
    · cases h
def cat_ct : Ct := fun args H => match args with
  | [.c x] => (match vcs H x with
    | some (sz, _, .c cells) => (match Nat.beq sz 1, aLs H cells with
      | true, some ls => some ([ls.length ≤ 1000000, ls.flatten.length ≤ 1000000000], .c (.wh H.length), [⟨.row, 5, 1, ls.flatten.length, .b ls.flatten⟩])
      | _, _ => none)
    | _ => none)
  | _ => none
theorem cat_h : FnOk Tryd.prog Tr 20 cat_ct := by
  refine ⟨fun args H g av objs hF hg ρ w vals hG hp ha => ?_, _, Tryd.func20, by kernel_rfl, by kernel_rfl⟩
  unfold cat_ct at hF
  split at hF
  · rename_i x
    split at hF
    · rename_i sz n cells hx
      split at hF
      · rename_i ls hsz hls
        simp only [Option.some.injEq, Prod.mk.injEq] at hF
        obtain ⟨rfl, rfl, rfl⟩ := hF
        obtain ⟨v, vals, rfl, k, ha⟩ := F2.inv ha
        obtain rfl := F2.inv0 ha
        have e1 := Nat.eq_of_beq_eq_true hsz
        subst e1
        obtain ⟨vs, hc, hS⟩ := vcs_ok hp hx k
        obtain ⟨g1, g2⟩ : ls.length ≤ 1000000 ∧ ls.flatten.length ≤ 1000000000 := by simpa [allP] using hg
        exact calls_mono (concat_c w _ v vs ls (slr_sl hS) (aLs_ok hp hls hc) g1 g2) fun v w' ⟨hx, hv⟩ => ⟨hx, left_row hv (fun _ => csR_b.2 rfl) (by rw [List.length_map])⟩
      · cases hF
    · cases hF
  · cases hF
end Go.Proofs.YtamddohbpdbdmaaDoor
end
