import Derived.Test.YtamddohbpdbdmaaDoorZ2
import Derived.Deep.DeepCutAuto
import Derived.Test.YtamddohbpdbdmaaDoorRows
import Derived.Test.YtamddohbpdbdmaaDoorChecked
import Derived.ProofKit
import Derived.LaidMore
import Derived.OpenShut
import Derived.Stop.Joined
section
set_option linter.unusedVariables false
set_option linter.unusedSimpArgs false
namespace Go.Proofs.YtamddohbpdbdmaaDoor
open Go.RowKit Go.Ch

/-- a block of 64 bytes as a value; 64 words -/
def b64 (l : List UInt8) : Value := .agg (l.map bU).toArray
def ws64 (l : List UInt32) : Value := .agg (l.map w32).toArray

set_option maxRecDepth 100000 in
set_option maxHeartbeats 1000000 in
theorem sched_c (w : World) (bl : List UInt8) (hl : bl.length = 64) :
    Calls Tryd.prog 35 #[b64 bl] w (Ret fun v' w' => Ext w w' ∧ v' = ws64 (sched bl)) := by
  obtain ⟨i28, hi28, hz28, hs28, hb28⟩ := info_parts infoU32
  have hsz28 := info_size infoU32
  obtain ⟨i5, hi5, hz5, hs5, hb5⟩ := info_parts infoU8
  have hsz5 := info_size infoU8
  obtain ⟨i54, hi54, hz54, hs54, hb54⟩ := info_parts infoB64
  have hsz54 := info_size infoB64
  obtain ⟨i62, hi62, hz62, hs62, hb62⟩ := info_parts infoW64
  have hsz62 := info_size infoW64
  unfold b64 ws64
  go_enter Tryd.func35, Tryd.ntmps35
  go_wp2_with (first
    | ((with_reducible refine g_at (d := 1) ?_); refine wpl_box (cs := (bl.map bU).toArray) rfl rfl ?_; intro b1 w1 hB1 hb1 hx1; try (conv in (Act.put _ _ _) => simp only [Act.put, List.setIfInBounds_toArray, List.set_cons_succ, List.set_cons_zero]))
    | ((with_reducible refine g_at (d := 2) ?_); refine wpl_alloc hi62 hz62 (cs := ((zeros 64).map w32).toArray) rfl ?_; intro b2 w2 hB2 hb2 hx2; try (conv in (Act.put _ _ _) => simp only [Act.put, List.setIfInBounds_toArray, List.set_cons_succ, List.set_cons_zero]))
    | ((with_reducible refine g_at (d := 3) ?_); refine wpl_alloc hi62 hz62 (cs := ((zeros 64).map w32).toArray) rfl ?_; intro b3 w3 hB3 hb3 hx3; try (conv in (Act.put _ _ _) => simp only [Act.put, List.setIfInBounds_toArray, List.set_cons_succ, List.set_cons_zero]))
    | ((with_reducible refine g_at (d := 9) ?_); refine wpl_loadrow (cs := (bl.map bU).toArray) (t' := 54) rfl (by first | assumption | exact Blk.back (by first | assumption | exact Ext.drew' (by assumption) | exact Ext.undrew (by assumption)) (by first | assumption | exact Blk.back (by first | assumption | exact Ext.drew' (by assumption) | exact Ext.undrew (by assumption)) (by first | assumption | exact Blk.back (by first | assumption | exact Ext.drew' (by assumption) | exact Ext.undrew (by assumption)) (by first | assumption | exact Blk.back (by first | assumption | exact Ext.drew' (by assumption) | exact Ext.undrew (by assumption)) (by first | assumption | exact Blk.back (by first | assumption | exact Ext.drew' (by assumption) | exact Ext.undrew (by assumption)) (by first | assumption | exact Blk.back (by first | assumption | exact Ext.drew' (by assumption) | exact Ext.undrew (by assumption)) (by first | assumption | exact Blk.back (by first | assumption | exact Ext.drew' (by assumption) | exact Ext.undrew (by assumption)) (by first | assumption | exact Blk.back (by first | assumption | exact Ext.drew' (by assumption) | exact Ext.undrew (by assumption)) (by first | assumption))))))))) Tryd.underlying54 rfl (by simp [hsz54, hl]) ?_; try (conv in (Act.put _ _ _) => simp only [Act.put, List.setIfInBounds_toArray, List.set_cons_succ, List.set_cons_zero]))
    | ((with_reducible refine g_at (d := 18) ?_); refine wpl_ixarr rfl rfl Tryd.underlying62 hi28 hs28 rfl (by first | decide | omega) ?_; try (conv in (Act.put _ _ _) => simp only [Act.put, List.setIfInBounds_toArray, List.set_cons_succ, List.set_cons_zero]))
    | ((with_reducible refine g_at (d := 19) ?_); refine wpl_load1 rfl Tryd.underlying28 rfl (Blk.at_ (by first | assumption | exact Blk.back (by first | assumption | exact Ext.drew' (by assumption) | exact Ext.undrew (by assumption)) (by first | assumption | exact Blk.back (by first | assumption | exact Ext.drew' (by assumption) | exact Ext.undrew (by assumption)) (by first | assumption | exact Blk.back (by first | assumption | exact Ext.drew' (by assumption) | exact Ext.undrew (by assumption)) (by first | assumption | exact Blk.back (by first | assumption | exact Ext.drew' (by assumption) | exact Ext.undrew (by assumption)) (by first | assumption | exact Blk.back (by first | assumption | exact Ext.drew' (by assumption) | exact Ext.undrew (by assumption)) (by first | assumption | exact Blk.back (by first | assumption | exact Ext.drew' (by assumption) | exact Ext.undrew (by assumption)) (by first | assumption | exact Blk.back (by first | assumption | exact Ext.drew' (by assumption) | exact Ext.undrew (by assumption)) (by first | assumption | exact Blk.back (by first | assumption | exact Ext.drew' (by assumption) | exact Ext.undrew (by assumption)) (by first | assumption))))))))) (by first | exact at_w32 (by first | decide | omega | (simp <;> omega)) | exact at_b8 (by first | decide | omega | (simp <;> omega)) | rfl)) ?_; try (conv in (Act.put _ _ _) => simp only [Act.put, List.setIfInBounds_toArray, List.set_cons_succ, List.set_cons_zero]))
    | ((with_reducible refine g_at (d := 22) ?_); refine wpl_conv rfl (by exact conv_bw Tryd.underlying5 Tryd.underlying28 _ _) ?_; try (conv in (Act.put _ _ _) => simp only [Act.put, List.setIfInBounds_toArray, List.set_cons_succ, List.set_cons_zero]))
    | ((with_reducible refine g_at (d := 24) ?_); refine wpl_ixarr rfl rfl Tryd.underlying62 hi28 hs28 rfl (by first | decide | omega) ?_; try (conv in (Act.put _ _ _) => simp only [Act.put, List.setIfInBounds_toArray, List.set_cons_succ, List.set_cons_zero]))
    | ((with_reducible refine g_at (d := 32) ?_); refine wpl_ixarr rfl rfl Tryd.underlying62 hi28 hs28 rfl (by first | decide | omega) ?_; try (conv in (Act.put _ _ _) => simp only [Act.put, List.setIfInBounds_toArray, List.set_cons_succ, List.set_cons_zero]))
    | ((with_reducible refine g_at (d := 33) ?_); refine wpl_load1 rfl Tryd.underlying28 rfl (Blk.at_ (by first | assumption | exact Blk.back (by first | assumption | exact Ext.drew' (by assumption) | exact Ext.undrew (by assumption)) (by first | assumption | exact Blk.back (by first | assumption | exact Ext.drew' (by assumption) | exact Ext.undrew (by assumption)) (by first | assumption | exact Blk.back (by first | assumption | exact Ext.drew' (by assumption) | exact Ext.undrew (by assumption)) (by first | assumption | exact Blk.back (by first | assumption | exact Ext.drew' (by assumption) | exact Ext.undrew (by assumption)) (by first | assumption | exact Blk.back (by first | assumption | exact Ext.drew' (by assumption) | exact Ext.undrew (by assumption)) (by first | assumption | exact Blk.back (by first | assumption | exact Ext.drew' (by assumption) | exact Ext.undrew (by assumption)) (by first | assumption | exact Blk.back (by first | assumption | exact Ext.drew' (by assumption) | exact Ext.undrew (by assumption)) (by first | assumption | exact Blk.back (by first | assumption | exact Ext.drew' (by assumption) | exact Ext.undrew (by assumption)) (by first | assumption))))))))) (by first | exact at_w32 (by first | decide | omega | (simp <;> omega)) | exact at_b8 (by first | decide | omega | (simp <;> omega)) | rfl)) ?_; try (conv in (Act.put _ _ _) => simp only [Act.put, List.setIfInBounds_toArray, List.set_cons_succ, List.set_cons_zero]))
    | ((with_reducible refine g_at (d := 36) ?_); refine wpl_ixarr rfl rfl Tryd.underlying62 hi28 hs28 rfl (by first | decide | omega) ?_; try (conv in (Act.put _ _ _) => simp only [Act.put, List.setIfInBounds_toArray, List.set_cons_succ, List.set_cons_zero]))
    | ((with_reducible refine g_at (d := 37) ?_); refine wpl_load1 rfl Tryd.underlying28 rfl (Blk.at_ (by first | assumption | exact Blk.back (by first | assumption | exact Ext.drew' (by assumption) | exact Ext.undrew (by assumption)) (by first | assumption | exact Blk.back (by first | assumption | exact Ext.drew' (by assumption) | exact Ext.undrew (by assumption)) (by first | assumption | exact Blk.back (by first | assumption | exact Ext.drew' (by assumption) | exact Ext.undrew (by assumption)) (by first | assumption | exact Blk.back (by first | assumption | exact Ext.drew' (by assumption) | exact Ext.undrew (by assumption)) (by first | assumption | exact Blk.back (by first | assumption | exact Ext.drew' (by assumption) | exact Ext.undrew (by assumption)) (by first | assumption | exact Blk.back (by first | assumption | exact Ext.drew' (by assumption) | exact Ext.undrew (by assumption)) (by first | assumption | exact Blk.back (by first | assumption | exact Ext.drew' (by assumption) | exact Ext.undrew (by assumption)) (by first | assumption | exact Blk.back (by first | assumption | exact Ext.drew' (by assumption) | exact Ext.undrew (by assumption)) (by first | assumption))))))))) (by first | exact at_w32 (by first | decide | omega | (simp <;> omega)) | exact at_b8 (by first | decide | omega | (simp <;> omega)) | rfl)) ?_; try (conv in (Act.put _ _ _) => simp only [Act.put, List.setIfInBounds_toArray, List.set_cons_succ, List.set_cons_zero]))
    | ((with_reducible refine g_at (d := 41) ?_); refine wpl_ixarr rfl rfl Tryd.underlying62 hi28 hs28 rfl (by first | decide | omega) ?_; try (conv in (Act.put _ _ _) => simp only [Act.put, List.setIfInBounds_toArray, List.set_cons_succ, List.set_cons_zero]))
    | ((with_reducible refine g_at (d := 42) ?_); refine wpl_load1 rfl Tryd.underlying28 rfl (Blk.at_ (by first | assumption | exact Blk.back (by first | assumption | exact Ext.drew' (by assumption) | exact Ext.undrew (by assumption)) (by first | assumption | exact Blk.back (by first | assumption | exact Ext.drew' (by assumption) | exact Ext.undrew (by assumption)) (by first | assumption | exact Blk.back (by first | assumption | exact Ext.drew' (by assumption) | exact Ext.undrew (by assumption)) (by first | assumption | exact Blk.back (by first | assumption | exact Ext.drew' (by assumption) | exact Ext.undrew (by assumption)) (by first | assumption | exact Blk.back (by first | assumption | exact Ext.drew' (by assumption) | exact Ext.undrew (by assumption)) (by first | assumption | exact Blk.back (by first | assumption | exact Ext.drew' (by assumption) | exact Ext.undrew (by assumption)) (by first | assumption | exact Blk.back (by first | assumption | exact Ext.drew' (by assumption) | exact Ext.undrew (by assumption)) (by first | assumption | exact Blk.back (by first | assumption | exact Ext.drew' (by assumption) | exact Ext.undrew (by assumption)) (by first | assumption))))))))) (by first | exact at_w32 (by first | decide | omega | (simp <;> omega)) | exact at_b8 (by first | decide | omega | (simp <;> omega)) | rfl)) ?_; try (conv in (Act.put _ _ _) => simp only [Act.put, List.setIfInBounds_toArray, List.set_cons_succ, List.set_cons_zero]))
    | ((with_reducible refine g_at (d := 54) ?_); refine wpl_ixarr rfl rfl Tryd.underlying62 hi28 hs28 rfl (by first | decide | omega) ?_; try (conv in (Act.put _ _ _) => simp only [Act.put, List.setIfInBounds_toArray, List.set_cons_succ, List.set_cons_zero]))
    | ((with_reducible refine g_at (d := 55) ?_); refine wpl_load1 rfl Tryd.underlying28 rfl (Blk.at_ (by first | assumption | exact Blk.back (by first | assumption | exact Ext.drew' (by assumption) | exact Ext.undrew (by assumption)) (by first | assumption | exact Blk.back (by first | assumption | exact Ext.drew' (by assumption) | exact Ext.undrew (by assumption)) (by first | assumption | exact Blk.back (by first | assumption | exact Ext.drew' (by assumption) | exact Ext.undrew (by assumption)) (by first | assumption | exact Blk.back (by first | assumption | exact Ext.drew' (by assumption) | exact Ext.undrew (by assumption)) (by first | assumption | exact Blk.back (by first | assumption | exact Ext.drew' (by assumption) | exact Ext.undrew (by assumption)) (by first | assumption | exact Blk.back (by first | assumption | exact Ext.drew' (by assumption) | exact Ext.undrew (by assumption)) (by first | assumption | exact Blk.back (by first | assumption | exact Ext.drew' (by assumption) | exact Ext.undrew (by assumption)) (by first | assumption | exact Blk.back (by first | assumption | exact Ext.drew' (by assumption) | exact Ext.undrew (by assumption)) (by first | assumption))))))))) (by first | exact at_w32 (by first | decide | omega | (simp <;> omega)) | exact at_b8 (by first | decide | omega | (simp <;> omega)) | rfl)) ?_; try (conv in (Act.put _ _ _) => simp only [Act.put, List.setIfInBounds_toArray, List.set_cons_succ, List.set_cons_zero]))
    | ((with_reducible refine g_at (d := 66) ?_); refine wpl_ixarr rfl rfl Tryd.underlying62 hi28 hs28 rfl (by first | decide | omega) ?_; try (conv in (Act.put _ _ _) => simp only [Act.put, List.setIfInBounds_toArray, List.set_cons_succ, List.set_cons_zero]))
    | ((with_reducible refine g_at (d := 20) ?_); refine wpl_bin rfl rfl (by exact Go.Ch.run_shl32 _ _ _ _ _ 8 (by omega) _) ?_; try (conv in (Act.put _ _ _) => simp only [Act.put, List.setIfInBounds_toArray, List.set_cons_succ, List.set_cons_zero]))
    | ((with_reducible refine g_at (d := 23) ?_); refine wpl_bin rfl rfl (by exact Go.Ch.run_or32 _ _ _ _ _ _) ?_; try (conv in (Act.put _ _ _) => simp only [Act.put, List.setIfInBounds_toArray, List.set_cons_succ, List.set_cons_zero]))
    | ((with_reducible refine g_at (d := 47) ?_); refine wpl_bin rfl rfl (by exact Go.Ch.run_xor32 _ _ _ _ _ _) ?_; try (conv in (Act.put _ _ _) => simp only [Act.put, List.setIfInBounds_toArray, List.set_cons_succ, List.set_cons_zero]))
    | ((with_reducible refine g_at (d := 49) ?_); refine wpl_bin rfl rfl (by exact Go.Ch.run_shr32 _ _ _ _ _ 3 (by omega) _) ?_; try (conv in (Act.put _ _ _) => simp only [Act.put, List.setIfInBounds_toArray, List.set_cons_succ, List.set_cons_zero]))
    | ((with_reducible refine g_at (d := 50) ?_); refine wpl_bin rfl rfl (by exact Go.Ch.run_xor32 _ _ _ _ _ _) ?_; try (conv in (Act.put _ _ _) => simp only [Act.put, List.setIfInBounds_toArray, List.set_cons_succ, List.set_cons_zero]))
    | ((with_reducible refine g_at (d := 51) ?_); refine wpl_bin rfl rfl (by exact Go.Ch.run_add32 _ _ _ _ _ _) ?_; try (conv in (Act.put _ _ _) => simp only [Act.put, List.setIfInBounds_toArray, List.set_cons_succ, List.set_cons_zero]))
    | ((with_reducible refine g_at (d := 56) ?_); refine wpl_bin rfl rfl (by exact Go.Ch.run_add32 _ _ _ _ _ _) ?_; try (conv in (Act.put _ _ _) => simp only [Act.put, List.setIfInBounds_toArray, List.set_cons_succ, List.set_cons_zero]))
    | ((with_reducible refine g_at (d := 61) ?_); refine wpl_bin rfl rfl (by exact Go.Ch.run_xor32 _ _ _ _ _ _) ?_; try (conv in (Act.put _ _ _) => simp only [Act.put, List.setIfInBounds_toArray, List.set_cons_succ, List.set_cons_zero]))
    | ((with_reducible refine g_at (d := 63) ?_); refine wpl_bin rfl rfl (by exact Go.Ch.run_shr32 _ _ _ _ _ 10 (by omega) _) ?_; try (conv in (Act.put _ _ _) => simp only [Act.put, List.setIfInBounds_toArray, List.set_cons_succ, List.set_cons_zero]))
    | ((with_reducible refine g_at (d := 64) ?_); refine wpl_bin rfl rfl (by exact Go.Ch.run_xor32 _ _ _ _ _ _) ?_; try (conv in (Act.put _ _ _) => simp only [Act.put, List.setIfInBounds_toArray, List.set_cons_succ, List.set_cons_zero]))
    | ((with_reducible refine g_at (d := 65) ?_); refine wpl_bin rfl rfl (by exact Go.Ch.run_add32 _ _ _ _ _ _) ?_; try (conv in (Act.put _ _ _) => simp only [Act.put, List.setIfInBounds_toArray, List.set_cons_succ, List.set_cons_zero])))
  have hb23 : b2 < b3 := Nat.lt_of_lt_of_le hB2.lt hb3
  go_loopw [10] (fun i wr => ∃ k : Nat, k ≤ 64 ∧ i = .int .i64 k ∧ Blk wr b3 62 ((packW bl k).map w32).toArray ∧ Blk wr b2 62 ((zeros 64).map w32).toArray ∧ Ext w wr) (fun i _ => 64 - (intOf i).toNat)
  case atStart => exact ⟨0, by omega, rfl, by rw [packW_zero]; exact hB3, hB2.ext hx3, (by first | exact Below.refl _ _ | assumption | exact Ext.drew' (by assumption) | exact Ext.undrew (by assumption) | exact Ext.back (by first | assumption | exact Ext.drew' (by assumption) | exact Ext.undrew (by assumption)) (by first | exact Below.refl _ _ | assumption | exact Ext.drew' (by assumption) | exact Ext.undrew (by assumption) | exact Ext.back (by first | assumption | exact Ext.drew' (by assumption) | exact Ext.undrew (by assumption)) (by first | exact Below.refl _ _ | assumption | exact Ext.drew' (by assumption) | exact Ext.undrew (by assumption) | exact Ext.back (by first | assumption | exact Ext.drew' (by assumption) | exact Ext.undrew (by assumption)) (by first | exact Below.refl _ _ | assumption | exact Ext.drew' (by assumption) | exact Ext.undrew (by assumption) | exact Ext.back (by first | assumption | exact Ext.drew' (by assumption) | exact Ext.undrew (by assumption)) (by first | exact Below.refl _ _ | assumption | exact Ext.drew' (by assumption) | exact Ext.undrew (by assumption) | exact Ext.back (by first | assumption | exact Ext.drew' (by assumption) | exact Ext.undrew (by assumption)) (by first | exact Below.refl _ _ | assumption | exact Ext.drew' (by assumption) | exact Ext.undrew (by assumption) | exact Ext.back (by first | assumption | exact Ext.drew' (by assumption) | exact Ext.undrew (by assumption)) (by first | exact Below.refl _ _ | assumption | exact Ext.drew' (by assumption) | exact Ext.undrew (by assumption) | exact Ext.back (by first | assumption | exact Ext.drew' (by assumption) | exact Ext.undrew (by assumption)) (by first | exact Below.refl _ _ | assumption | exact Ext.drew' (by assumption) | exact Ext.undrew (by assumption) | exact Ext.back (by first | assumption | exact Ext.drew' (by assumption) | exact Ext.undrew (by assumption)) (by first | exact Below.refl _ _ | assumption | exact Ext.drew' (by assumption) | exact Ext.undrew (by assumption))))))))))⟩
  case round =>
    obtain ⟨k, hk, rfl, hBr, hBz, hx⟩ := hrel
    by_cases hlt : k < 64
    · have hlen := length_packW bl k
      go_wp2_with (first
        | ((with_reducible refine g_at (d := 13) ?_); refine wpl_ixval rfl rfl Tryd.underlying54 Tryd.underlying5 rfl hi5 hs5 rfl (by omega) (at_b8 (by omega)) ?_; try (conv in (Act.put _ _ _) => simp only [Act.put, List.setIfInBounds_toArray, List.set_cons_succ, List.set_cons_zero]))
        | ((with_reducible refine g_at (d := 18) ?_); refine wpl_ixarr rfl rfl Tryd.underlying62 hi28 hs28 (show _ = ((k / 4 : Nat) : Int) by first | omega | (simp <;> omega)) (by first | decide | omega) ?_; try (conv in (Act.put _ _ _) => simp only [Act.put, List.setIfInBounds_toArray, List.set_cons_succ, List.set_cons_zero]))
        | ((with_reducible refine g_at (d := 24) ?_); refine wpl_ixarr rfl rfl Tryd.underlying62 hi28 hs28 (show _ = ((k / 4 : Nat) : Int) by first | omega | (simp <;> omega)) (by first | decide | omega) ?_; try (conv in (Act.put _ _ _) => simp only [Act.put, List.setIfInBounds_toArray, List.set_cons_succ, List.set_cons_zero]))
        | ((with_reducible refine g_storeat (n := 24) ?_); refine wpl_store1 rfl rfl hi28 hs28 rfl rfl (by first | assumption | exact Blk.back (by first | assumption | exact Ext.drew' (by assumption) | exact Ext.undrew (by assumption)) (by first | assumption | exact Blk.back (by first | assumption | exact Ext.drew' (by assumption) | exact Ext.undrew (by assumption)) (by first | assumption | exact Blk.back (by first | assumption | exact Ext.drew' (by assumption) | exact Ext.undrew (by assumption)) (by first | assumption | exact Blk.back (by first | assumption | exact Ext.drew' (by assumption) | exact Ext.undrew (by assumption)) (by first | assumption | exact Blk.back (by first | assumption | exact Ext.drew' (by assumption) | exact Ext.undrew (by assumption)) (by first | assumption | exact Blk.back (by first | assumption | exact Ext.drew' (by assumption) | exact Ext.undrew (by assumption)) (by first | assumption | exact Blk.back (by first | assumption | exact Ext.drew' (by assumption) | exact Ext.undrew (by assumption)) (by first | assumption | exact Blk.back (by first | assumption | exact Ext.drew' (by assumption) | exact Ext.undrew (by assumption)) (by first | assumption))))))))) (by simp [hlen]; omega) ?_; intro ws24 hBs24 hgs24 hzs24; (try simp only [Act.eval, Array.getD_eq_getD_getElem?, List.getElem?_toArray, List.getElem?_cons_succ, List.getElem?_cons_zero, Option.getD_some] at hBs24); (try simp only [← List.getD_eq_getElem?_getD] at hBs24); try (conv in (Act.put _ _ _) => simp only [Act.put, List.setIfInBounds_toArray, List.set_cons_succ, List.set_cons_zero]))
        | ((with_reducible refine g_at (d := 19) ?_); refine wpl_load1 rfl Tryd.underlying28 rfl (Blk.at_ (by first | assumption | exact Blk.back (by first | assumption | exact Ext.drew' (by assumption) | exact Ext.undrew (by assumption)) (by first | assumption | exact Blk.back (by first | assumption | exact Ext.drew' (by assumption) | exact Ext.undrew (by assumption)) (by first | assumption | exact Blk.back (by first | assumption | exact Ext.drew' (by assumption) | exact Ext.undrew (by assumption)) (by first | assumption | exact Blk.back (by first | assumption | exact Ext.drew' (by assumption) | exact Ext.undrew (by assumption)) (by first | assumption | exact Blk.back (by first | assumption | exact Ext.drew' (by assumption) | exact Ext.undrew (by assumption)) (by first | assumption | exact Blk.back (by first | assumption | exact Ext.drew' (by assumption) | exact Ext.undrew (by assumption)) (by first | assumption | exact Blk.back (by first | assumption | exact Ext.drew' (by assumption) | exact Ext.undrew (by assumption)) (by first | assumption | exact Blk.back (by first | assumption | exact Ext.drew' (by assumption) | exact Ext.undrew (by assumption)) (by first | assumption))))))))) (by first | exact at_w32 (by first | decide | omega | (simp <;> omega)) | exact at_b8 (by first | decide | omega | (simp <;> omega)) | rfl)) ?_; try (conv in (Act.put _ _ _) => simp only [Act.put, List.setIfInBounds_toArray, List.set_cons_succ, List.set_cons_zero]))
        | ((with_reducible refine g_at (d := 22) ?_); refine wpl_conv rfl (by exact conv_bw Tryd.underlying5 Tryd.underlying28 _ _) ?_; try (conv in (Act.put _ _ _) => simp only [Act.put, List.setIfInBounds_toArray, List.set_cons_succ, List.set_cons_zero]))
        | ((with_reducible refine g_at (d := 32) ?_); refine wpl_ixarr rfl rfl Tryd.underlying62 hi28 hs28 rfl (by first | decide | omega) ?_; try (conv in (Act.put _ _ _) => simp only [Act.put, List.setIfInBounds_toArray, List.set_cons_succ, List.set_cons_zero]))
        | ((with_reducible refine g_at (d := 33) ?_); refine wpl_load1 rfl Tryd.underlying28 rfl (Blk.at_ (by first | assumption | exact Blk.back (by first | assumption | exact Ext.drew' (by assumption) | exact Ext.undrew (by assumption)) (by first | assumption | exact Blk.back (by first | assumption | exact Ext.drew' (by assumption) | exact Ext.undrew (by assumption)) (by first | assumption | exact Blk.back (by first | assumption | exact Ext.drew' (by assumption) | exact Ext.undrew (by assumption)) (by first | assumption | exact Blk.back (by first | assumption | exact Ext.drew' (by assumption) | exact Ext.undrew (by assumption)) (by first | assumption | exact Blk.back (by first | assumption | exact Ext.drew' (by assumption) | exact Ext.undrew (by assumption)) (by first | assumption | exact Blk.back (by first | assumption | exact Ext.drew' (by assumption) | exact Ext.undrew (by assumption)) (by first | assumption | exact Blk.back (by first | assumption | exact Ext.drew' (by assumption) | exact Ext.undrew (by assumption)) (by first | assumption | exact Blk.back (by first | assumption | exact Ext.drew' (by assumption) | exact Ext.undrew (by assumption)) (by first | assumption))))))))) (by first | exact at_w32 (by first | decide | omega | (simp <;> omega)) | exact at_b8 (by first | decide | omega | (simp <;> omega)) | rfl)) ?_; try (conv in (Act.put _ _ _) => simp only [Act.put, List.setIfInBounds_toArray, List.set_cons_succ, List.set_cons_zero]))
        | ((with_reducible refine g_at (d := 36) ?_); refine wpl_ixarr rfl rfl Tryd.underlying62 hi28 hs28 rfl (by first | decide | omega) ?_; try (conv in (Act.put _ _ _) => simp only [Act.put, List.setIfInBounds_toArray, List.set_cons_succ, List.set_cons_zero]))
        | ((with_reducible refine g_at (d := 37) ?_); refine wpl_load1 rfl Tryd.underlying28 rfl (Blk.at_ (by first | assumption | exact Blk.back (by first | assumption | exact Ext.drew' (by assumption) | exact Ext.undrew (by assumption)) (by first | assumption | exact Blk.back (by first | assumption | exact Ext.drew' (by assumption) | exact Ext.undrew (by assumption)) (by first | assumption | exact Blk.back (by first | assumption | exact Ext.drew' (by assumption) | exact Ext.undrew (by assumption)) (by first | assumption | exact Blk.back (by first | assumption | exact Ext.drew' (by assumption) | exact Ext.undrew (by assumption)) (by first | assumption | exact Blk.back (by first | assumption | exact Ext.drew' (by assumption) | exact Ext.undrew (by assumption)) (by first | assumption | exact Blk.back (by first | assumption | exact Ext.drew' (by assumption) | exact Ext.undrew (by assumption)) (by first | assumption | exact Blk.back (by first | assumption | exact Ext.drew' (by assumption) | exact Ext.undrew (by assumption)) (by first | assumption | exact Blk.back (by first | assumption | exact Ext.drew' (by assumption) | exact Ext.undrew (by assumption)) (by first | assumption))))))))) (by first | exact at_w32 (by first | decide | omega | (simp <;> omega)) | exact at_b8 (by first | decide | omega | (simp <;> omega)) | rfl)) ?_; try (conv in (Act.put _ _ _) => simp only [Act.put, List.setIfInBounds_toArray, List.set_cons_succ, List.set_cons_zero]))
        | ((with_reducible refine g_at (d := 41) ?_); refine wpl_ixarr rfl rfl Tryd.underlying62 hi28 hs28 rfl (by first | decide | omega) ?_; try (conv in (Act.put _ _ _) => simp only [Act.put, List.setIfInBounds_toArray, List.set_cons_succ, List.set_cons_zero]))
        | ((with_reducible refine g_at (d := 42) ?_); refine wpl_load1 rfl Tryd.underlying28 rfl (Blk.at_ (by first | assumption | exact Blk.back (by first | assumption | exact Ext.drew' (by assumption) | exact Ext.undrew (by assumption)) (by first | assumption | exact Blk.back (by first | assumption | exact Ext.drew' (by assumption) | exact Ext.undrew (by assumption)) (by first | assumption | exact Blk.back (by first | assumption | exact Ext.drew' (by assumption) | exact Ext.undrew (by assumption)) (by first | assumption | exact Blk.back (by first | assumption | exact Ext.drew' (by assumption) | exact Ext.undrew (by assumption)) (by first | assumption | exact Blk.back (by first | assumption | exact Ext.drew' (by assumption) | exact Ext.undrew (by assumption)) (by first | assumption | exact Blk.back (by first | assumption | exact Ext.drew' (by assumption) | exact Ext.undrew (by assumption)) (by first | assumption | exact Blk.back (by first | assumption | exact Ext.drew' (by assumption) | exact Ext.undrew (by assumption)) (by first | assumption | exact Blk.back (by first | assumption | exact Ext.drew' (by assumption) | exact Ext.undrew (by assumption)) (by first | assumption))))))))) (by first | exact at_w32 (by first | decide | omega | (simp <;> omega)) | exact at_b8 (by first | decide | omega | (simp <;> omega)) | rfl)) ?_; try (conv in (Act.put _ _ _) => simp only [Act.put, List.setIfInBounds_toArray, List.set_cons_succ, List.set_cons_zero]))
        | ((with_reducible refine g_at (d := 54) ?_); refine wpl_ixarr rfl rfl Tryd.underlying62 hi28 hs28 rfl (by first | decide | omega) ?_; try (conv in (Act.put _ _ _) => simp only [Act.put, List.setIfInBounds_toArray, List.set_cons_succ, List.set_cons_zero]))
        | ((with_reducible refine g_at (d := 55) ?_); refine wpl_load1 rfl Tryd.underlying28 rfl (Blk.at_ (by first | assumption | exact Blk.back (by first | assumption | exact Ext.drew' (by assumption) | exact Ext.undrew (by assumption)) (by first | assumption | exact Blk.back (by first | assumption | exact Ext.drew' (by assumption) | exact Ext.undrew (by assumption)) (by first | assumption | exact Blk.back (by first | assumption | exact Ext.drew' (by assumption) | exact Ext.undrew (by assumption)) (by first | assumption | exact Blk.back (by first | assumption | exact Ext.drew' (by assumption) | exact Ext.undrew (by assumption)) (by first | assumption | exact Blk.back (by first | assumption | exact Ext.drew' (by assumption) | exact Ext.undrew (by assumption)) (by first | assumption | exact Blk.back (by first | assumption | exact Ext.drew' (by assumption) | exact Ext.undrew (by assumption)) (by first | assumption | exact Blk.back (by first | assumption | exact Ext.drew' (by assumption) | exact Ext.undrew (by assumption)) (by first | assumption | exact Blk.back (by first | assumption | exact Ext.drew' (by assumption) | exact Ext.undrew (by assumption)) (by first | assumption))))))))) (by first | exact at_w32 (by first | decide | omega | (simp <;> omega)) | exact at_b8 (by first | decide | omega | (simp <;> omega)) | rfl)) ?_; try (conv in (Act.put _ _ _) => simp only [Act.put, List.setIfInBounds_toArray, List.set_cons_succ, List.set_cons_zero]))
        | ((with_reducible refine g_at (d := 66) ?_); refine wpl_ixarr rfl rfl Tryd.underlying62 hi28 hs28 rfl (by first | decide | omega) ?_; try (conv in (Act.put _ _ _) => simp only [Act.put, List.setIfInBounds_toArray, List.set_cons_succ, List.set_cons_zero]))
        | ((with_reducible refine g_at (d := 20) ?_); refine wpl_bin rfl rfl (by exact Go.Ch.run_shl32 _ _ _ _ _ 8 (by omega) _) ?_; try (conv in (Act.put _ _ _) => simp only [Act.put, List.setIfInBounds_toArray, List.set_cons_succ, List.set_cons_zero]))
        | ((with_reducible refine g_at (d := 23) ?_); refine wpl_bin rfl rfl (by exact Go.Ch.run_or32 _ _ _ _ _ _) ?_; try (conv in (Act.put _ _ _) => simp only [Act.put, List.setIfInBounds_toArray, List.set_cons_succ, List.set_cons_zero]))
        | ((with_reducible refine g_at (d := 47) ?_); refine wpl_bin rfl rfl (by exact Go.Ch.run_xor32 _ _ _ _ _ _) ?_; try (conv in (Act.put _ _ _) => simp only [Act.put, List.setIfInBounds_toArray, List.set_cons_succ, List.set_cons_zero]))
        | ((with_reducible refine g_at (d := 49) ?_); refine wpl_bin rfl rfl (by exact Go.Ch.run_shr32 _ _ _ _ _ 3 (by omega) _) ?_; try (conv in (Act.put _ _ _) => simp only [Act.put, List.setIfInBounds_toArray, List.set_cons_succ, List.set_cons_zero]))
        | ((with_reducible refine g_at (d := 50) ?_); refine wpl_bin rfl rfl (by exact Go.Ch.run_xor32 _ _ _ _ _ _) ?_; try (conv in (Act.put _ _ _) => simp only [Act.put, List.setIfInBounds_toArray, List.set_cons_succ, List.set_cons_zero]))
        | ((with_reducible refine g_at (d := 51) ?_); refine wpl_bin rfl rfl (by exact Go.Ch.run_add32 _ _ _ _ _ _) ?_; try (conv in (Act.put _ _ _) => simp only [Act.put, List.setIfInBounds_toArray, List.set_cons_succ, List.set_cons_zero]))
        | ((with_reducible refine g_at (d := 56) ?_); refine wpl_bin rfl rfl (by exact Go.Ch.run_add32 _ _ _ _ _ _) ?_; try (conv in (Act.put _ _ _) => simp only [Act.put, List.setIfInBounds_toArray, List.set_cons_succ, List.set_cons_zero]))
        | ((with_reducible refine g_at (d := 61) ?_); refine wpl_bin rfl rfl (by exact Go.Ch.run_xor32 _ _ _ _ _ _) ?_; try (conv in (Act.put _ _ _) => simp only [Act.put, List.setIfInBounds_toArray, List.set_cons_succ, List.set_cons_zero]))
        | ((with_reducible refine g_at (d := 63) ?_); refine wpl_bin rfl rfl (by exact Go.Ch.run_shr32 _ _ _ _ _ 10 (by omega) _) ?_; try (conv in (Act.put _ _ _) => simp only [Act.put, List.setIfInBounds_toArray, List.set_cons_succ, List.set_cons_zero]))
        | ((with_reducible refine g_at (d := 64) ?_); refine wpl_bin rfl rfl (by exact Go.Ch.run_xor32 _ _ _ _ _ _) ?_; try (conv in (Act.put _ _ _) => simp only [Act.put, List.setIfInBounds_toArray, List.set_cons_succ, List.set_cons_zero]))
        | ((with_reducible refine g_at (d := 65) ?_); refine wpl_bin rfl rfl (by exact Go.Ch.run_add32 _ _ _ _ _ _) ?_; try (conv in (Act.put _ _ _) => simp only [Act.put, List.setIfInBounds_toArray, List.set_cons_succ, List.set_cons_zero])))
      go_roundw
      case rel =>
        refine ⟨k + 1, by omega, by go_num, ?_, hBz.grown hgs24 (by simp; omega), hx.trans (grown_below hgs24 (by have := hx1.size; have := hx2.size; omega) hx.size)⟩
        rw [or_byte, set_w32, packW_step _ _ hlt hl] at hBs24
        exact hBs24
      case measure => simp [intOf]; omega
    · have hk64 : k = 64 := by omega
      rw [hk64, packW_all bl hl] at hBr
      have HK := Lib.hid hk64
      clear hk64
      have hd64 : decide ((k : Int) < 64) = false := by simp; omega
      go_wp2_with (first
        | ((with_reducible refine g_at (d := 18) ?_); refine wpl_ixarr rfl rfl Tryd.underlying62 hi28 hs28 rfl (by first | decide | omega) ?_; try (conv in (Act.put _ _ _) => simp only [Act.put, List.setIfInBounds_toArray, List.set_cons_succ, List.set_cons_zero]))
        | ((with_reducible refine g_at (d := 19) ?_); refine wpl_load1 rfl Tryd.underlying28 rfl (Blk.at_ (by first | assumption | exact Blk.back (by first | assumption | exact Ext.drew' (by assumption) | exact Ext.undrew (by assumption)) (by first | assumption | exact Blk.back (by first | assumption | exact Ext.drew' (by assumption) | exact Ext.undrew (by assumption)) (by first | assumption | exact Blk.back (by first | assumption | exact Ext.drew' (by assumption) | exact Ext.undrew (by assumption)) (by first | assumption | exact Blk.back (by first | assumption | exact Ext.drew' (by assumption) | exact Ext.undrew (by assumption)) (by first | assumption | exact Blk.back (by first | assumption | exact Ext.drew' (by assumption) | exact Ext.undrew (by assumption)) (by first | assumption | exact Blk.back (by first | assumption | exact Ext.drew' (by assumption) | exact Ext.undrew (by assumption)) (by first | assumption | exact Blk.back (by first | assumption | exact Ext.drew' (by assumption) | exact Ext.undrew (by assumption)) (by first | assumption | exact Blk.back (by first | assumption | exact Ext.drew' (by assumption) | exact Ext.undrew (by assumption)) (by first | assumption))))))))) (by first | exact at_w32 (by first | decide | omega | (simp <;> omega)) | exact at_b8 (by first | decide | omega | (simp <;> omega)) | rfl)) ?_; try (conv in (Act.put _ _ _) => simp only [Act.put, List.setIfInBounds_toArray, List.set_cons_succ, List.set_cons_zero]))
        | ((with_reducible refine g_at (d := 22) ?_); refine wpl_conv rfl (by exact conv_bw Tryd.underlying5 Tryd.underlying28 _ _) ?_; try (conv in (Act.put _ _ _) => simp only [Act.put, List.setIfInBounds_toArray, List.set_cons_succ, List.set_cons_zero]))
        | ((with_reducible refine g_at (d := 24) ?_); refine wpl_ixarr rfl rfl Tryd.underlying62 hi28 hs28 rfl (by first | decide | omega) ?_; try (conv in (Act.put _ _ _) => simp only [Act.put, List.setIfInBounds_toArray, List.set_cons_succ, List.set_cons_zero]))
        | ((with_reducible refine g_at (d := 32) ?_); refine wpl_ixarr rfl rfl Tryd.underlying62 hi28 hs28 rfl (by first | decide | omega) ?_; try (conv in (Act.put _ _ _) => simp only [Act.put, List.setIfInBounds_toArray, List.set_cons_succ, List.set_cons_zero]))
        | ((with_reducible refine g_at (d := 33) ?_); refine wpl_load1 rfl Tryd.underlying28 rfl (Blk.at_ (by first | assumption | exact Blk.back (by first | assumption | exact Ext.drew' (by assumption) | exact Ext.undrew (by assumption)) (by first | assumption | exact Blk.back (by first | assumption | exact Ext.drew' (by assumption) | exact Ext.undrew (by assumption)) (by first | assumption | exact Blk.back (by first | assumption | exact Ext.drew' (by assumption) | exact Ext.undrew (by assumption)) (by first | assumption | exact Blk.back (by first | assumption | exact Ext.drew' (by assumption) | exact Ext.undrew (by assumption)) (by first | assumption | exact Blk.back (by first | assumption | exact Ext.drew' (by assumption) | exact Ext.undrew (by assumption)) (by first | assumption | exact Blk.back (by first | assumption | exact Ext.drew' (by assumption) | exact Ext.undrew (by assumption)) (by first | assumption | exact Blk.back (by first | assumption | exact Ext.drew' (by assumption) | exact Ext.undrew (by assumption)) (by first | assumption | exact Blk.back (by first | assumption | exact Ext.drew' (by assumption) | exact Ext.undrew (by assumption)) (by first | assumption))))))))) (by first | exact at_w32 (by first | decide | omega | (simp <;> omega)) | exact at_b8 (by first | decide | omega | (simp <;> omega)) | rfl)) ?_; try (conv in (Act.put _ _ _) => simp only [Act.put, List.setIfInBounds_toArray, List.set_cons_succ, List.set_cons_zero]))
        | ((with_reducible refine g_at (d := 36) ?_); refine wpl_ixarr rfl rfl Tryd.underlying62 hi28 hs28 rfl (by first | decide | omega) ?_; try (conv in (Act.put _ _ _) => simp only [Act.put, List.setIfInBounds_toArray, List.set_cons_succ, List.set_cons_zero]))
        | ((with_reducible refine g_at (d := 37) ?_); refine wpl_load1 rfl Tryd.underlying28 rfl (Blk.at_ (by first | assumption | exact Blk.back (by first | assumption | exact Ext.drew' (by assumption) | exact Ext.undrew (by assumption)) (by first | assumption | exact Blk.back (by first | assumption | exact Ext.drew' (by assumption) | exact Ext.undrew (by assumption)) (by first | assumption | exact Blk.back (by first | assumption | exact Ext.drew' (by assumption) | exact Ext.undrew (by assumption)) (by first | assumption | exact Blk.back (by first | assumption | exact Ext.drew' (by assumption) | exact Ext.undrew (by assumption)) (by first | assumption | exact Blk.back (by first | assumption | exact Ext.drew' (by assumption) | exact Ext.undrew (by assumption)) (by first | assumption | exact Blk.back (by first | assumption | exact Ext.drew' (by assumption) | exact Ext.undrew (by assumption)) (by first | assumption | exact Blk.back (by first | assumption | exact Ext.drew' (by assumption) | exact Ext.undrew (by assumption)) (by first | assumption | exact Blk.back (by first | assumption | exact Ext.drew' (by assumption) | exact Ext.undrew (by assumption)) (by first | assumption))))))))) (by first | exact at_w32 (by first | decide | omega | (simp <;> omega)) | exact at_b8 (by first | decide | omega | (simp <;> omega)) | rfl)) ?_; try (conv in (Act.put _ _ _) => simp only [Act.put, List.setIfInBounds_toArray, List.set_cons_succ, List.set_cons_zero]))
        | ((with_reducible refine g_at (d := 41) ?_); refine wpl_ixarr rfl rfl Tryd.underlying62 hi28 hs28 rfl (by first | decide | omega) ?_; try (conv in (Act.put _ _ _) => simp only [Act.put, List.setIfInBounds_toArray, List.set_cons_succ, List.set_cons_zero]))
        | ((with_reducible refine g_at (d := 42) ?_); refine wpl_load1 rfl Tryd.underlying28 rfl (Blk.at_ (by first | assumption | exact Blk.back (by first | assumption | exact Ext.drew' (by assumption) | exact Ext.undrew (by assumption)) (by first | assumption | exact Blk.back (by first | assumption | exact Ext.drew' (by assumption) | exact Ext.undrew (by assumption)) (by first | assumption | exact Blk.back (by first | assumption | exact Ext.drew' (by assumption) | exact Ext.undrew (by assumption)) (by first | assumption | exact Blk.back (by first | assumption | exact Ext.drew' (by assumption) | exact Ext.undrew (by assumption)) (by first | assumption | exact Blk.back (by first | assumption | exact Ext.drew' (by assumption) | exact Ext.undrew (by assumption)) (by first | assumption | exact Blk.back (by first | assumption | exact Ext.drew' (by assumption) | exact Ext.undrew (by assumption)) (by first | assumption | exact Blk.back (by first | assumption | exact Ext.drew' (by assumption) | exact Ext.undrew (by assumption)) (by first | assumption | exact Blk.back (by first | assumption | exact Ext.drew' (by assumption) | exact Ext.undrew (by assumption)) (by first | assumption))))))))) (by first | exact at_w32 (by first | decide | omega | (simp <;> omega)) | exact at_b8 (by first | decide | omega | (simp <;> omega)) | rfl)) ?_; try (conv in (Act.put _ _ _) => simp only [Act.put, List.setIfInBounds_toArray, List.set_cons_succ, List.set_cons_zero]))
        | ((with_reducible refine g_at (d := 54) ?_); refine wpl_ixarr rfl rfl Tryd.underlying62 hi28 hs28 rfl (by first | decide | omega) ?_; try (conv in (Act.put _ _ _) => simp only [Act.put, List.setIfInBounds_toArray, List.set_cons_succ, List.set_cons_zero]))
        | ((with_reducible refine g_at (d := 55) ?_); refine wpl_load1 rfl Tryd.underlying28 rfl (Blk.at_ (by first | assumption | exact Blk.back (by first | assumption | exact Ext.drew' (by assumption) | exact Ext.undrew (by assumption)) (by first | assumption | exact Blk.back (by first | assumption | exact Ext.drew' (by assumption) | exact Ext.undrew (by assumption)) (by first | assumption | exact Blk.back (by first | assumption | exact Ext.drew' (by assumption) | exact Ext.undrew (by assumption)) (by first | assumption | exact Blk.back (by first | assumption | exact Ext.drew' (by assumption) | exact Ext.undrew (by assumption)) (by first | assumption | exact Blk.back (by first | assumption | exact Ext.drew' (by assumption) | exact Ext.undrew (by assumption)) (by first | assumption | exact Blk.back (by first | assumption | exact Ext.drew' (by assumption) | exact Ext.undrew (by assumption)) (by first | assumption | exact Blk.back (by first | assumption | exact Ext.drew' (by assumption) | exact Ext.undrew (by assumption)) (by first | assumption | exact Blk.back (by first | assumption | exact Ext.drew' (by assumption) | exact Ext.undrew (by assumption)) (by first | assumption))))))))) (by first | exact at_w32 (by first | decide | omega | (simp <;> omega)) | exact at_b8 (by first | decide | omega | (simp <;> omega)) | rfl)) ?_; try (conv in (Act.put _ _ _) => simp only [Act.put, List.setIfInBounds_toArray, List.set_cons_succ, List.set_cons_zero]))
        | ((with_reducible refine g_at (d := 66) ?_); refine wpl_ixarr rfl rfl Tryd.underlying62 hi28 hs28 rfl (by first | decide | omega) ?_; try (conv in (Act.put _ _ _) => simp only [Act.put, List.setIfInBounds_toArray, List.set_cons_succ, List.set_cons_zero]))
        | ((with_reducible refine g_at (d := 20) ?_); refine wpl_bin rfl rfl (by exact Go.Ch.run_shl32 _ _ _ _ _ 8 (by omega) _) ?_; try (conv in (Act.put _ _ _) => simp only [Act.put, List.setIfInBounds_toArray, List.set_cons_succ, List.set_cons_zero]))
        | ((with_reducible refine g_at (d := 23) ?_); refine wpl_bin rfl rfl (by exact Go.Ch.run_or32 _ _ _ _ _ _) ?_; try (conv in (Act.put _ _ _) => simp only [Act.put, List.setIfInBounds_toArray, List.set_cons_succ, List.set_cons_zero]))
        | ((with_reducible refine g_at (d := 47) ?_); refine wpl_bin rfl rfl (by exact Go.Ch.run_xor32 _ _ _ _ _ _) ?_; try (conv in (Act.put _ _ _) => simp only [Act.put, List.setIfInBounds_toArray, List.set_cons_succ, List.set_cons_zero]))
        | ((with_reducible refine g_at (d := 49) ?_); refine wpl_bin rfl rfl (by exact Go.Ch.run_shr32 _ _ _ _ _ 3 (by omega) _) ?_; try (conv in (Act.put _ _ _) => simp only [Act.put, List.setIfInBounds_toArray, List.set_cons_succ, List.set_cons_zero]))
        | ((with_reducible refine g_at (d := 50) ?_); refine wpl_bin rfl rfl (by exact Go.Ch.run_xor32 _ _ _ _ _ _) ?_; try (conv in (Act.put _ _ _) => simp only [Act.put, List.setIfInBounds_toArray, List.set_cons_succ, List.set_cons_zero]))
        | ((with_reducible refine g_at (d := 51) ?_); refine wpl_bin rfl rfl (by exact Go.Ch.run_add32 _ _ _ _ _ _) ?_; try (conv in (Act.put _ _ _) => simp only [Act.put, List.setIfInBounds_toArray, List.set_cons_succ, List.set_cons_zero]))
        | ((with_reducible refine g_at (d := 56) ?_); refine wpl_bin rfl rfl (by exact Go.Ch.run_add32 _ _ _ _ _ _) ?_; try (conv in (Act.put _ _ _) => simp only [Act.put, List.setIfInBounds_toArray, List.set_cons_succ, List.set_cons_zero]))
        | ((with_reducible refine g_at (d := 61) ?_); refine wpl_bin rfl rfl (by exact Go.Ch.run_xor32 _ _ _ _ _ _) ?_; try (conv in (Act.put _ _ _) => simp only [Act.put, List.setIfInBounds_toArray, List.set_cons_succ, List.set_cons_zero]))
        | ((with_reducible refine g_at (d := 63) ?_); refine wpl_bin rfl rfl (by exact Go.Ch.run_shr32 _ _ _ _ _ 10 (by omega) _) ?_; try (conv in (Act.put _ _ _) => simp only [Act.put, List.setIfInBounds_toArray, List.set_cons_succ, List.set_cons_zero]))
        | ((with_reducible refine g_at (d := 64) ?_); refine wpl_bin rfl rfl (by exact Go.Ch.run_xor32 _ _ _ _ _ _) ?_; try (conv in (Act.put _ _ _) => simp only [Act.put, List.setIfInBounds_toArray, List.set_cons_succ, List.set_cons_zero]))
        | ((with_reducible refine g_at (d := 65) ?_); refine wpl_bin rfl rfl (by exact Go.Ch.run_add32 _ _ _ _ _ _) ?_; try (conv in (Act.put _ _ _) => simp only [Act.put, List.setIfInBounds_toArray, List.set_cons_succ, List.set_cons_zero])))
      go_loopw [6] (fun i wr => ∃ k : Nat, 16 ≤ k ∧ k ≤ 64 ∧ i = .int .i64 k ∧ Blk wr b3 62 ((padW (extN (k - 16) (first16 bl))).map w32).toArray ∧ Blk wr b2 62 ((zeros 64).map w32).toArray ∧ Ext w wr) (fun i _ => 64 - (intOf i).toNat)
      case atStart => exact ⟨16, by omega, by omega, rfl, hBr, hBz, hx⟩
      case round =>
        obtain ⟨k, hk16, hk, rfl, hBr, hBz, hx⟩ := hrel
        have hle : (extN (k - 16) (first16 bl)).length = k := by rw [length_extN, length_first16]; omega
        have hlen : (padW (extN (k - 16) (first16 bl))).length = 64 := length_padW _ (by omega)
        by_cases hlt : k < 64
        · go_wp2_with fail
          refine wp_region_rel 10 68 Ext (by kernel_rfl) (by kernel_rfl) (by kernel_rfl) rfl rfl (fun _ => Below.refl _ _) (fun _ _ _ => Ext.tr) ?_
          refine r_move _ rfl (stays_eq _) ?_
          refine r_bin rfl rfl (by intro w; (try go_simp); (try go_ints); (first | done | rfl)) ?_
          refine r_ixarr Tryd.underlying62 hi28 hs28 rfl rfl (show _ = ((k - 15 : Nat) : Int) by first | omega | (simp <;> omega)) (by first | decide | omega) ?_
          refine r_load1 Tryd.underlying28 rfl rfl (by first | assumption | exact Blk.back (by first | assumption | exact Ext.drew' (by assumption) | exact Ext.undrew (by assumption)) (by first | assumption | exact Blk.back (by first | assumption | exact Ext.drew' (by assumption) | exact Ext.undrew (by assumption)) (by first | assumption | exact Blk.back (by first | assumption | exact Ext.drew' (by assumption) | exact Ext.undrew (by assumption)) (by first | assumption | exact Blk.back (by first | assumption | exact Ext.drew' (by assumption) | exact Ext.undrew (by assumption)) (by first | assumption | exact Blk.back (by first | assumption | exact Ext.drew' (by assumption) | exact Ext.undrew (by assumption)) (by first | assumption | exact Blk.back (by first | assumption | exact Ext.drew' (by assumption) | exact Ext.undrew (by assumption)) (by first | assumption | exact Blk.back (by first | assumption | exact Ext.drew' (by assumption) | exact Ext.undrew (by assumption)) (by first | assumption | exact Blk.back (by first | assumption | exact Ext.drew' (by assumption) | exact Ext.undrew (by assumption)) (by first | assumption))))))))) (by first | exact at_w32 (by first | decide | omega | (simp <;> omega)) | exact at_b8 (by first | decide | omega | (simp <;> omega)) | rfl) ?_
          refine r_move _ rfl (stays_eq _) ?_
          refine r_bin rfl rfl (by intro w; (try go_simp); (try go_ints); (first | done | rfl)) ?_
          refine r_ixarr Tryd.underlying62 hi28 hs28 rfl rfl (show _ = ((k - 2 : Nat) : Int) by first | omega | (simp <;> omega)) (by first | decide | omega) ?_
          refine r_load1 Tryd.underlying28 rfl rfl (by first | assumption | exact Blk.back (by first | assumption | exact Ext.drew' (by assumption) | exact Ext.undrew (by assumption)) (by first | assumption | exact Blk.back (by first | assumption | exact Ext.drew' (by assumption) | exact Ext.undrew (by assumption)) (by first | assumption | exact Blk.back (by first | assumption | exact Ext.drew' (by assumption) | exact Ext.undrew (by assumption)) (by first | assumption | exact Blk.back (by first | assumption | exact Ext.drew' (by assumption) | exact Ext.undrew (by assumption)) (by first | assumption | exact Blk.back (by first | assumption | exact Ext.drew' (by assumption) | exact Ext.undrew (by assumption)) (by first | assumption | exact Blk.back (by first | assumption | exact Ext.drew' (by assumption) | exact Ext.undrew (by assumption)) (by first | assumption | exact Blk.back (by first | assumption | exact Ext.drew' (by assumption) | exact Ext.undrew (by assumption)) (by first | assumption | exact Blk.back (by first | assumption | exact Ext.drew' (by assumption) | exact Ext.undrew (by assumption)) (by first | assumption))))))))) (by first | exact at_w32 (by first | decide | omega | (simp <;> omega)) | exact at_b8 (by first | decide | omega | (simp <;> omega)) | rfl) ?_
          refine r_assign _ rfl (stays_eq _) ?_
          refine r_assign _ rfl (stays_eq _) ?_
          intro wR10 hxR10; have gxR10 := hxR10.undrew
          refine Fin_eq ?_
          refine Fin_eq ?_
          refine Fin_eq ?_
          refine Fin_eq ?_
          refine Fin_eq ?_
          refine Fin_eq ?_
          refine Fin_eq ?_
          refine Fin_eq ?_
          refine Fin_eq ?_
          refine Fin_eq ?_
          show wpList _ _ _ _ _ _
          simp only [Act.put, List.setIfInBounds_toArray, List.set_cons_succ, List.set_cons_zero, Array.getD_eq_getD_getElem?, List.getElem?_toArray, List.getElem?_cons_succ, List.getElem?_cons_zero, Option.getD_some]
          refine wpList_nil ?_
          go_wp2_with fail
          refine wp_region_rel 28 68 Ext (by kernel_rfl) (by kernel_rfl) (by kernel_rfl) rfl rfl (fun _ => Below.refl _ _) (fun _ _ _ => Ext.tr) ?_
          refine r_move _ rfl (stays_eq _) ?_
          refine r_move _ rfl (stays_eq _) ?_
          refine r_bin rfl rfl (by intro w; (try go_simp); (try go_ints); (first | done | rfl)) ?_
          refine r_ixarr Tryd.underlying62 hi28 hs28 rfl rfl (show _ = ((k - 16 : Nat) : Int) by first | omega | (simp <;> omega)) (by first | decide | omega) ?_
          refine r_load1 Tryd.underlying28 rfl rfl (by first | assumption | exact Blk.back (by first | assumption | exact Ext.drew' (by assumption) | exact Ext.undrew (by assumption)) (by first | assumption | exact Blk.back (by first | assumption | exact Ext.drew' (by assumption) | exact Ext.undrew (by assumption)) (by first | assumption | exact Blk.back (by first | assumption | exact Ext.drew' (by assumption) | exact Ext.undrew (by assumption)) (by first | assumption | exact Blk.back (by first | assumption | exact Ext.drew' (by assumption) | exact Ext.undrew (by assumption)) (by first | assumption | exact Blk.back (by first | assumption | exact Ext.drew' (by assumption) | exact Ext.undrew (by assumption)) (by first | assumption | exact Blk.back (by first | assumption | exact Ext.drew' (by assumption) | exact Ext.undrew (by assumption)) (by first | assumption | exact Blk.back (by first | assumption | exact Ext.drew' (by assumption) | exact Ext.undrew (by assumption)) (by first | assumption | exact Blk.back (by first | assumption | exact Ext.drew' (by assumption) | exact Ext.undrew (by assumption)) (by first | assumption))))))))) (by first | exact at_w32 (by first | decide | omega | (simp <;> omega)) | exact at_b8 (by first | decide | omega | (simp <;> omega)) | rfl) ?_
          refine r_move _ rfl (stays_eq _) ?_
          refine r_callE _ Tryd.func41 (by kernel_rfl) (by kernel_rfl) rfl (fun w hX => roll_c w ((padW (extN (k - 16) (first16 bl))).getD (k - 15) 0) 7 (by omega) (by omega)) ?_
          refine r_move _ rfl (stays_eq _) ?_
          refine r_callE _ Tryd.func41 (by kernel_rfl) (by kernel_rfl) rfl (fun w hX => roll_c w ((padW (extN (k - 16) (first16 bl))).getD (k - 15) 0) 18 (by omega) (by omega)) ?_
          refine r_bin rfl rfl (by intro w; exact Go.Ch.run_xor32 _ _ _ _ _ _) ?_
          refine r_move _ rfl (stays_eq _) ?_
          refine r_bin rfl rfl (by intro w; exact Go.Ch.run_shr32 _ _ _ _ _ 3 (by omega) _) ?_
          refine r_bin rfl rfl (by intro w; exact Go.Ch.run_xor32 _ _ _ _ _ _) ?_
          refine r_bin rfl rfl (by intro w; exact Go.Ch.run_add32 _ _ _ _ _ _) ?_
          refine r_move _ rfl (stays_eq _) ?_
          refine r_bin rfl rfl (by intro w; (try go_simp); (try go_ints); (first | done | rfl)) ?_
          refine r_ixarr Tryd.underlying62 hi28 hs28 rfl rfl (show _ = ((k - 7 : Nat) : Int) by first | omega | (simp <;> omega)) (by first | decide | omega) ?_
          refine r_load1 Tryd.underlying28 rfl rfl (by first | assumption | exact Blk.back (by first | assumption | exact Ext.drew' (by assumption) | exact Ext.undrew (by assumption)) (by first | assumption | exact Blk.back (by first | assumption | exact Ext.drew' (by assumption) | exact Ext.undrew (by assumption)) (by first | assumption | exact Blk.back (by first | assumption | exact Ext.drew' (by assumption) | exact Ext.undrew (by assumption)) (by first | assumption | exact Blk.back (by first | assumption | exact Ext.drew' (by assumption) | exact Ext.undrew (by assumption)) (by first | assumption | exact Blk.back (by first | assumption | exact Ext.drew' (by assumption) | exact Ext.undrew (by assumption)) (by first | assumption | exact Blk.back (by first | assumption | exact Ext.drew' (by assumption) | exact Ext.undrew (by assumption)) (by first | assumption | exact Blk.back (by first | assumption | exact Ext.drew' (by assumption) | exact Ext.undrew (by assumption)) (by first | assumption | exact Blk.back (by first | assumption | exact Ext.drew' (by assumption) | exact Ext.undrew (by assumption)) (by first | assumption))))))))) (by first | exact at_w32 (by first | decide | omega | (simp <;> omega)) | exact at_b8 (by first | decide | omega | (simp <;> omega)) | rfl) ?_
          refine r_bin rfl rfl (by intro w; exact Go.Ch.run_add32 _ _ _ _ _ _) ?_
          refine r_move _ rfl (stays_eq _) ?_
          refine r_callE _ Tryd.func41 (by kernel_rfl) (by kernel_rfl) rfl (fun w hX => roll_c w ((padW (extN (k - 16) (first16 bl))).getD (k - 2) 0) 17 (by omega) (by omega)) ?_
          refine r_move _ rfl (stays_eq _) ?_
          refine r_callE _ Tryd.func41 (by kernel_rfl) (by kernel_rfl) rfl (fun w hX => roll_c w ((padW (extN (k - 16) (first16 bl))).getD (k - 2) 0) 19 (by omega) (by omega)) ?_
          refine r_bin rfl rfl (by intro w; exact Go.Ch.run_xor32 _ _ _ _ _ _) ?_
          refine r_move _ rfl (stays_eq _) ?_
          refine r_bin rfl rfl (by intro w; exact Go.Ch.run_shr32 _ _ _ _ _ 10 (by omega) _) ?_
          refine r_bin rfl rfl (by intro w; exact Go.Ch.run_xor32 _ _ _ _ _ _) ?_
          refine r_bin rfl rfl (by intro w; exact Go.Ch.run_add32 _ _ _ _ _ _) ?_
          intro wR11 hxR11; have gxR11 := hxR11.undrew
          refine Fin_eq ?_
          refine Fin_eq ?_
          refine Fin_eq ?_
          refine Fin_eq ?_
          refine Fin_eq ?_
          refine Fin_eq ?_
          refine Fin_eq ?_
          refine Fin_eq ?_
          refine Fin_eq ?_
          refine Fin_eq ?_
          refine Fin_eq ?_
          refine Fin_eq ?_
          refine Fin_eq ?_
          refine Fin_eq ?_
          refine Fin_eq ?_
          refine Fin_eq ?_
          refine Fin_eq ?_
          refine Fin_eq ?_
          refine Fin_eq ?_
          refine Fin_eq ?_
          refine Fin_eq ?_
          refine Fin_eq ?_
          refine Fin_eq ?_
          refine Fin_eq ?_
          refine Fin_eq ?_
          refine Fin_eq ?_
          refine Fin_eq ?_
          refine Fin_eq ?_
          show wpList _ _ _ _ _ _
          simp only [Act.put, List.setIfInBounds_toArray, List.set_cons_succ, List.set_cons_zero, Array.getD_eq_getD_getElem?, List.getElem?_toArray, List.getElem?_cons_succ, List.getElem?_cons_zero, Option.getD_some]
          simp only [List.toList_toArray, List.drop_succ_cons, List.drop_zero]
          have hBq : Blk wR11 b3 62 ((padW (extN (k - 16) (first16 bl))).map w32).toArray := (by first | assumption | exact Blk.back (by first | assumption | exact Ext.drew' (by assumption) | exact Ext.undrew (by assumption)) (by first | assumption | exact Blk.back (by first | assumption | exact Ext.drew' (by assumption) | exact Ext.undrew (by assumption)) (by first | assumption | exact Blk.back (by first | assumption | exact Ext.drew' (by assumption) | exact Ext.undrew (by assumption)) (by first | assumption | exact Blk.back (by first | assumption | exact Ext.drew' (by assumption) | exact Ext.undrew (by assumption)) (by first | assumption | exact Blk.back (by first | assumption | exact Ext.drew' (by assumption) | exact Ext.undrew (by assumption)) (by first | assumption | exact Blk.back (by first | assumption | exact Ext.drew' (by assumption) | exact Ext.undrew (by assumption)) (by first | assumption | exact Blk.back (by first | assumption | exact Ext.drew' (by assumption) | exact Ext.undrew (by assumption)) (by first | assumption | exact Blk.back (by first | assumption | exact Ext.drew' (by assumption) | exact Ext.undrew (by assumption)) (by first | assumption)))))))))
          have hBy : Blk wR11 b2 62 ((zeros 64).map w32).toArray := (by first | assumption | exact Blk.back (by first | assumption | exact Ext.drew' (by assumption) | exact Ext.undrew (by assumption)) (by first | assumption | exact Blk.back (by first | assumption | exact Ext.drew' (by assumption) | exact Ext.undrew (by assumption)) (by first | assumption | exact Blk.back (by first | assumption | exact Ext.drew' (by assumption) | exact Ext.undrew (by assumption)) (by first | assumption | exact Blk.back (by first | assumption | exact Ext.drew' (by assumption) | exact Ext.undrew (by assumption)) (by first | assumption | exact Blk.back (by first | assumption | exact Ext.drew' (by assumption) | exact Ext.undrew (by assumption)) (by first | assumption | exact Blk.back (by first | assumption | exact Ext.drew' (by assumption) | exact Ext.undrew (by assumption)) (by first | assumption | exact Blk.back (by first | assumption | exact Ext.drew' (by assumption) | exact Ext.undrew (by assumption)) (by first | assumption | exact Blk.back (by first | assumption | exact Ext.drew' (by assumption) | exact Ext.undrew (by assumption)) (by first | assumption)))))))))
          have hxq : Ext w wR11 := (by first | exact Below.refl _ _ | assumption | exact Ext.drew' (by assumption) | exact Ext.undrew (by assumption) | exact Ext.back (by first | assumption | exact Ext.drew' (by assumption) | exact Ext.undrew (by assumption)) (by first | exact Below.refl _ _ | assumption | exact Ext.drew' (by assumption) | exact Ext.undrew (by assumption) | exact Ext.back (by first | assumption | exact Ext.drew' (by assumption) | exact Ext.undrew (by assumption)) (by first | exact Below.refl _ _ | assumption | exact Ext.drew' (by assumption) | exact Ext.undrew (by assumption) | exact Ext.back (by first | assumption | exact Ext.drew' (by assumption) | exact Ext.undrew (by assumption)) (by first | exact Below.refl _ _ | assumption | exact Ext.drew' (by assumption) | exact Ext.undrew (by assumption) | exact Ext.back (by first | assumption | exact Ext.drew' (by assumption) | exact Ext.undrew (by assumption)) (by first | exact Below.refl _ _ | assumption | exact Ext.drew' (by assumption) | exact Ext.undrew (by assumption) | exact Ext.back (by first | assumption | exact Ext.drew' (by assumption) | exact Ext.undrew (by assumption)) (by first | exact Below.refl _ _ | assumption | exact Ext.drew' (by assumption) | exact Ext.undrew (by assumption) | exact Ext.back (by first | assumption | exact Ext.drew' (by assumption) | exact Ext.undrew (by assumption)) (by first | exact Below.refl _ _ | assumption | exact Ext.drew' (by assumption) | exact Ext.undrew (by assumption) | exact Ext.back (by first | assumption | exact Ext.drew' (by assumption) | exact Ext.undrew (by assumption)) (by first | exact Below.refl _ _ | assumption | exact Ext.drew' (by assumption) | exact Ext.undrew (by assumption) | exact Ext.back (by first | assumption | exact Ext.drew' (by assumption) | exact Ext.undrew (by assumption)) (by first | exact Below.refl _ _ | assumption | exact Ext.drew' (by assumption) | exact Ext.undrew (by assumption))))))))))
          go_wp2_with (first
            | ((with_reducible refine g_storeat (n := 66) ?_); refine wpl_store1 rfl rfl hi28 hs28 rfl rfl hBq (by simp [hlen]; omega) ?_; intro ws66 hBs66 hgs66 hzs66; (try simp only [Act.eval, Array.getD_eq_getD_getElem?, List.getElem?_toArray, List.getElem?_cons_succ, List.getElem?_cons_zero, Option.getD_some] at hBs66); (try simp only [← List.getD_eq_getElem?_getD] at hBs66); try (conv in (Act.put _ _ _) => simp only [Act.put, List.setIfInBounds_toArray, List.set_cons_succ, List.set_cons_zero]))
            | ((with_reducible refine g_at (d := 18) ?_); refine wpl_ixarr rfl rfl Tryd.underlying62 hi28 hs28 rfl (by first | decide | omega) ?_; try (conv in (Act.put _ _ _) => simp only [Act.put, List.setIfInBounds_toArray, List.set_cons_succ, List.set_cons_zero]))
            | ((with_reducible refine g_at (d := 19) ?_); refine wpl_load1 rfl Tryd.underlying28 rfl (Blk.at_ (by first | assumption | exact Blk.back (by first | assumption | exact Ext.drew' (by assumption) | exact Ext.undrew (by assumption)) (by first | assumption | exact Blk.back (by first | assumption | exact Ext.drew' (by assumption) | exact Ext.undrew (by assumption)) (by first | assumption | exact Blk.back (by first | assumption | exact Ext.drew' (by assumption) | exact Ext.undrew (by assumption)) (by first | assumption | exact Blk.back (by first | assumption | exact Ext.drew' (by assumption) | exact Ext.undrew (by assumption)) (by first | assumption | exact Blk.back (by first | assumption | exact Ext.drew' (by assumption) | exact Ext.undrew (by assumption)) (by first | assumption | exact Blk.back (by first | assumption | exact Ext.drew' (by assumption) | exact Ext.undrew (by assumption)) (by first | assumption | exact Blk.back (by first | assumption | exact Ext.drew' (by assumption) | exact Ext.undrew (by assumption)) (by first | assumption | exact Blk.back (by first | assumption | exact Ext.drew' (by assumption) | exact Ext.undrew (by assumption)) (by first | assumption))))))))) (by first | exact at_w32 (by first | decide | omega | (simp <;> omega)) | exact at_b8 (by first | decide | omega | (simp <;> omega)) | rfl)) ?_; try (conv in (Act.put _ _ _) => simp only [Act.put, List.setIfInBounds_toArray, List.set_cons_succ, List.set_cons_zero]))
            | ((with_reducible refine g_at (d := 22) ?_); refine wpl_conv rfl (by exact conv_bw Tryd.underlying5 Tryd.underlying28 _ _) ?_; try (conv in (Act.put _ _ _) => simp only [Act.put, List.setIfInBounds_toArray, List.set_cons_succ, List.set_cons_zero]))
            | ((with_reducible refine g_at (d := 24) ?_); refine wpl_ixarr rfl rfl Tryd.underlying62 hi28 hs28 rfl (by first | decide | omega) ?_; try (conv in (Act.put _ _ _) => simp only [Act.put, List.setIfInBounds_toArray, List.set_cons_succ, List.set_cons_zero]))
            | ((with_reducible refine g_at (d := 32) ?_); refine wpl_ixarr rfl rfl Tryd.underlying62 hi28 hs28 rfl (by first | decide | omega) ?_; try (conv in (Act.put _ _ _) => simp only [Act.put, List.setIfInBounds_toArray, List.set_cons_succ, List.set_cons_zero]))
            | ((with_reducible refine g_at (d := 33) ?_); refine wpl_load1 rfl Tryd.underlying28 rfl (Blk.at_ (by first | assumption | exact Blk.back (by first | assumption | exact Ext.drew' (by assumption) | exact Ext.undrew (by assumption)) (by first | assumption | exact Blk.back (by first | assumption | exact Ext.drew' (by assumption) | exact Ext.undrew (by assumption)) (by first | assumption | exact Blk.back (by first | assumption | exact Ext.drew' (by assumption) | exact Ext.undrew (by assumption)) (by first | assumption | exact Blk.back (by first | assumption | exact Ext.drew' (by assumption) | exact Ext.undrew (by assumption)) (by first | assumption | exact Blk.back (by first | assumption | exact Ext.drew' (by assumption) | exact Ext.undrew (by assumption)) (by first | assumption | exact Blk.back (by first | assumption | exact Ext.drew' (by assumption) | exact Ext.undrew (by assumption)) (by first | assumption | exact Blk.back (by first | assumption | exact Ext.drew' (by assumption) | exact Ext.undrew (by assumption)) (by first | assumption | exact Blk.back (by first | assumption | exact Ext.drew' (by assumption) | exact Ext.undrew (by assumption)) (by first | assumption))))))))) (by first | exact at_w32 (by first | decide | omega | (simp <;> omega)) | exact at_b8 (by first | decide | omega | (simp <;> omega)) | rfl)) ?_; try (conv in (Act.put _ _ _) => simp only [Act.put, List.setIfInBounds_toArray, List.set_cons_succ, List.set_cons_zero]))
            | ((with_reducible refine g_at (d := 36) ?_); refine wpl_ixarr rfl rfl Tryd.underlying62 hi28 hs28 rfl (by first | decide | omega) ?_; try (conv in (Act.put _ _ _) => simp only [Act.put, List.setIfInBounds_toArray, List.set_cons_succ, List.set_cons_zero]))
            | ((with_reducible refine g_at (d := 37) ?_); refine wpl_load1 rfl Tryd.underlying28 rfl (Blk.at_ (by first | assumption | exact Blk.back (by first | assumption | exact Ext.drew' (by assumption) | exact Ext.undrew (by assumption)) (by first | assumption | exact Blk.back (by first | assumption | exact Ext.drew' (by assumption) | exact Ext.undrew (by assumption)) (by first | assumption | exact Blk.back (by first | assumption | exact Ext.drew' (by assumption) | exact Ext.undrew (by assumption)) (by first | assumption | exact Blk.back (by first | assumption | exact Ext.drew' (by assumption) | exact Ext.undrew (by assumption)) (by first | assumption | exact Blk.back (by first | assumption | exact Ext.drew' (by assumption) | exact Ext.undrew (by assumption)) (by first | assumption | exact Blk.back (by first | assumption | exact Ext.drew' (by assumption) | exact Ext.undrew (by assumption)) (by first | assumption | exact Blk.back (by first | assumption | exact Ext.drew' (by assumption) | exact Ext.undrew (by assumption)) (by first | assumption | exact Blk.back (by first | assumption | exact Ext.drew' (by assumption) | exact Ext.undrew (by assumption)) (by first | assumption))))))))) (by first | exact at_w32 (by first | decide | omega | (simp <;> omega)) | exact at_b8 (by first | decide | omega | (simp <;> omega)) | rfl)) ?_; try (conv in (Act.put _ _ _) => simp only [Act.put, List.setIfInBounds_toArray, List.set_cons_succ, List.set_cons_zero]))
            | ((with_reducible refine g_at (d := 41) ?_); refine wpl_ixarr rfl rfl Tryd.underlying62 hi28 hs28 rfl (by first | decide | omega) ?_; try (conv in (Act.put _ _ _) => simp only [Act.put, List.setIfInBounds_toArray, List.set_cons_succ, List.set_cons_zero]))
            | ((with_reducible refine g_at (d := 42) ?_); refine wpl_load1 rfl Tryd.underlying28 rfl (Blk.at_ (by first | assumption | exact Blk.back (by first | assumption | exact Ext.drew' (by assumption) | exact Ext.undrew (by assumption)) (by first | assumption | exact Blk.back (by first | assumption | exact Ext.drew' (by assumption) | exact Ext.undrew (by assumption)) (by first | assumption | exact Blk.back (by first | assumption | exact Ext.drew' (by assumption) | exact Ext.undrew (by assumption)) (by first | assumption | exact Blk.back (by first | assumption | exact Ext.drew' (by assumption) | exact Ext.undrew (by assumption)) (by first | assumption | exact Blk.back (by first | assumption | exact Ext.drew' (by assumption) | exact Ext.undrew (by assumption)) (by first | assumption | exact Blk.back (by first | assumption | exact Ext.drew' (by assumption) | exact Ext.undrew (by assumption)) (by first | assumption | exact Blk.back (by first | assumption | exact Ext.drew' (by assumption) | exact Ext.undrew (by assumption)) (by first | assumption | exact Blk.back (by first | assumption | exact Ext.drew' (by assumption) | exact Ext.undrew (by assumption)) (by first | assumption))))))))) (by first | exact at_w32 (by first | decide | omega | (simp <;> omega)) | exact at_b8 (by first | decide | omega | (simp <;> omega)) | rfl)) ?_; try (conv in (Act.put _ _ _) => simp only [Act.put, List.setIfInBounds_toArray, List.set_cons_succ, List.set_cons_zero]))
            | ((with_reducible refine g_at (d := 54) ?_); refine wpl_ixarr rfl rfl Tryd.underlying62 hi28 hs28 rfl (by first | decide | omega) ?_; try (conv in (Act.put _ _ _) => simp only [Act.put, List.setIfInBounds_toArray, List.set_cons_succ, List.set_cons_zero]))
            | ((with_reducible refine g_at (d := 55) ?_); refine wpl_load1 rfl Tryd.underlying28 rfl (Blk.at_ (by first | assumption | exact Blk.back (by first | assumption | exact Ext.drew' (by assumption) | exact Ext.undrew (by assumption)) (by first | assumption | exact Blk.back (by first | assumption | exact Ext.drew' (by assumption) | exact Ext.undrew (by assumption)) (by first | assumption | exact Blk.back (by first | assumption | exact Ext.drew' (by assumption) | exact Ext.undrew (by assumption)) (by first | assumption | exact Blk.back (by first | assumption | exact Ext.drew' (by assumption) | exact Ext.undrew (by assumption)) (by first | assumption | exact Blk.back (by first | assumption | exact Ext.drew' (by assumption) | exact Ext.undrew (by assumption)) (by first | assumption | exact Blk.back (by first | assumption | exact Ext.drew' (by assumption) | exact Ext.undrew (by assumption)) (by first | assumption | exact Blk.back (by first | assumption | exact Ext.drew' (by assumption) | exact Ext.undrew (by assumption)) (by first | assumption | exact Blk.back (by first | assumption | exact Ext.drew' (by assumption) | exact Ext.undrew (by assumption)) (by first | assumption))))))))) (by first | exact at_w32 (by first | decide | omega | (simp <;> omega)) | exact at_b8 (by first | decide | omega | (simp <;> omega)) | rfl)) ?_; try (conv in (Act.put _ _ _) => simp only [Act.put, List.setIfInBounds_toArray, List.set_cons_succ, List.set_cons_zero]))
            | ((with_reducible refine g_at (d := 66) ?_); refine wpl_ixarr rfl rfl Tryd.underlying62 hi28 hs28 rfl (by first | decide | omega) ?_; try (conv in (Act.put _ _ _) => simp only [Act.put, List.setIfInBounds_toArray, List.set_cons_succ, List.set_cons_zero]))
            | ((with_reducible refine g_at (d := 20) ?_); refine wpl_bin rfl rfl (by exact Go.Ch.run_shl32 _ _ _ _ _ 8 (by omega) _) ?_; try (conv in (Act.put _ _ _) => simp only [Act.put, List.setIfInBounds_toArray, List.set_cons_succ, List.set_cons_zero]))
            | ((with_reducible refine g_at (d := 23) ?_); refine wpl_bin rfl rfl (by exact Go.Ch.run_or32 _ _ _ _ _ _) ?_; try (conv in (Act.put _ _ _) => simp only [Act.put, List.setIfInBounds_toArray, List.set_cons_succ, List.set_cons_zero]))
            | ((with_reducible refine g_at (d := 47) ?_); refine wpl_bin rfl rfl (by exact Go.Ch.run_xor32 _ _ _ _ _ _) ?_; try (conv in (Act.put _ _ _) => simp only [Act.put, List.setIfInBounds_toArray, List.set_cons_succ, List.set_cons_zero]))
            | ((with_reducible refine g_at (d := 49) ?_); refine wpl_bin rfl rfl (by exact Go.Ch.run_shr32 _ _ _ _ _ 3 (by omega) _) ?_; try (conv in (Act.put _ _ _) => simp only [Act.put, List.setIfInBounds_toArray, List.set_cons_succ, List.set_cons_zero]))
            | ((with_reducible refine g_at (d := 50) ?_); refine wpl_bin rfl rfl (by exact Go.Ch.run_xor32 _ _ _ _ _ _) ?_; try (conv in (Act.put _ _ _) => simp only [Act.put, List.setIfInBounds_toArray, List.set_cons_succ, List.set_cons_zero]))
            | ((with_reducible refine g_at (d := 51) ?_); refine wpl_bin rfl rfl (by exact Go.Ch.run_add32 _ _ _ _ _ _) ?_; try (conv in (Act.put _ _ _) => simp only [Act.put, List.setIfInBounds_toArray, List.set_cons_succ, List.set_cons_zero]))
            | ((with_reducible refine g_at (d := 56) ?_); refine wpl_bin rfl rfl (by exact Go.Ch.run_add32 _ _ _ _ _ _) ?_; try (conv in (Act.put _ _ _) => simp only [Act.put, List.setIfInBounds_toArray, List.set_cons_succ, List.set_cons_zero]))
            | ((with_reducible refine g_at (d := 61) ?_); refine wpl_bin rfl rfl (by exact Go.Ch.run_xor32 _ _ _ _ _ _) ?_; try (conv in (Act.put _ _ _) => simp only [Act.put, List.setIfInBounds_toArray, List.set_cons_succ, List.set_cons_zero]))
            | ((with_reducible refine g_at (d := 63) ?_); refine wpl_bin rfl rfl (by exact Go.Ch.run_shr32 _ _ _ _ _ 10 (by omega) _) ?_; try (conv in (Act.put _ _ _) => simp only [Act.put, List.setIfInBounds_toArray, List.set_cons_succ, List.set_cons_zero]))
            | ((with_reducible refine g_at (d := 64) ?_); refine wpl_bin rfl rfl (by exact Go.Ch.run_xor32 _ _ _ _ _ _) ?_; try (conv in (Act.put _ _ _) => simp only [Act.put, List.setIfInBounds_toArray, List.set_cons_succ, List.set_cons_zero]))
            | ((with_reducible refine g_at (d := 65) ?_); refine wpl_bin rfl rfl (by exact Go.Ch.run_add32 _ _ _ _ _ _) ?_; try (conv in (Act.put _ _ _) => simp only [Act.put, List.setIfInBounds_toArray, List.set_cons_succ, List.set_cons_zero])))
          go_roundw
          case rel =>
            refine ⟨k + 1, by omega, by omega, by go_num, ?_, hBy.grown hgs66 (by simp; omega), hxq.trans (grown_below hgs66 (by have := hx1.size; have := hx2.size; omega) hxq.size)⟩
            rw [set_w32] at hBs66
            have e : k + 1 - 16 = (k - 16) + 1 := by omega
            rw [e]
            show Blk _ _ _ ((padW (extW (extN (k - 16) (first16 bl)))).map w32).toArray
            rw [← extW_padW _ (by omega), hle]
            have e2 : nextW (extN (k - 16) (first16 bl)) = (padW (extN (k - 16) (first16 bl))).getD (k - 16) 0 + ssig0 ((padW (extN (k - 16) (first16 bl))).getD (k - 15) 0) + (padW (extN (k - 16) (first16 bl))).getD (k - 7) 0 + ssig1 ((padW (extN (k - 16) (first16 bl))).getD (k - 2) 0) := by
              unfold nextW
              simp only [hle]
              rw [getD_padW _ _ (by omega), getD_padW _ _ (by omega), getD_padW _ _ (by omega), getD_padW _ _ (by omega)]
            rw [e2]
            exact hBs66
          case measure => simp [intOf]; omega
        · obtain rfl : k = 64 := by omega
          rw [padW_full _ hle] at hBr
          have hls := length_sched bl
          have hBr' : Blk wr b3 62 ((sched bl).map w32).toArray := hBr
          go_wp2_with (first
            | ((with_reducible refine g_at (d := 67) ?_); refine wpl_loadrow rfl hBr' Tryd.underlying62 rfl (by simp [hsz62, hls]) ?_; try (conv in (Act.put _ _ _) => simp only [Act.put, List.setIfInBounds_toArray, List.set_cons_succ, List.set_cons_zero]))
            | ((with_reducible refine g_storeat (n := 2) ?_); refine wpl_storerow rfl rfl hi62 (by simp [hs62, hls]) (by intro u hu; exact w32_one _ u (by simpa using hu)) hBz (by simp [zeros, hls]) ?_; intro ws2 hBs2 hgs2 hzs2; try (conv in (Act.put _ _ _) => simp only [Act.put, List.setIfInBounds_toArray, List.set_cons_succ, List.set_cons_zero]))
            | ((with_reducible refine g_at (d := 18) ?_); refine wpl_ixarr rfl rfl Tryd.underlying62 hi28 hs28 rfl (by first | decide | omega) ?_; try (conv in (Act.put _ _ _) => simp only [Act.put, List.setIfInBounds_toArray, List.set_cons_succ, List.set_cons_zero]))
            | ((with_reducible refine g_at (d := 19) ?_); refine wpl_load1 rfl Tryd.underlying28 rfl (Blk.at_ (by first | assumption | exact Blk.back (by first | assumption | exact Ext.drew' (by assumption) | exact Ext.undrew (by assumption)) (by first | assumption | exact Blk.back (by first | assumption | exact Ext.drew' (by assumption) | exact Ext.undrew (by assumption)) (by first | assumption | exact Blk.back (by first | assumption | exact Ext.drew' (by assumption) | exact Ext.undrew (by assumption)) (by first | assumption | exact Blk.back (by first | assumption | exact Ext.drew' (by assumption) | exact Ext.undrew (by assumption)) (by first | assumption | exact Blk.back (by first | assumption | exact Ext.drew' (by assumption) | exact Ext.undrew (by assumption)) (by first | assumption | exact Blk.back (by first | assumption | exact Ext.drew' (by assumption) | exact Ext.undrew (by assumption)) (by first | assumption | exact Blk.back (by first | assumption | exact Ext.drew' (by assumption) | exact Ext.undrew (by assumption)) (by first | assumption | exact Blk.back (by first | assumption | exact Ext.drew' (by assumption) | exact Ext.undrew (by assumption)) (by first | assumption))))))))) (by first | exact at_w32 (by first | decide | omega | (simp <;> omega)) | exact at_b8 (by first | decide | omega | (simp <;> omega)) | rfl)) ?_; try (conv in (Act.put _ _ _) => simp only [Act.put, List.setIfInBounds_toArray, List.set_cons_succ, List.set_cons_zero]))
            | ((with_reducible refine g_at (d := 22) ?_); refine wpl_conv rfl (by exact conv_bw Tryd.underlying5 Tryd.underlying28 _ _) ?_; try (conv in (Act.put _ _ _) => simp only [Act.put, List.setIfInBounds_toArray, List.set_cons_succ, List.set_cons_zero]))
            | ((with_reducible refine g_at (d := 24) ?_); refine wpl_ixarr rfl rfl Tryd.underlying62 hi28 hs28 rfl (by first | decide | omega) ?_; try (conv in (Act.put _ _ _) => simp only [Act.put, List.setIfInBounds_toArray, List.set_cons_succ, List.set_cons_zero]))
            | ((with_reducible refine g_at (d := 32) ?_); refine wpl_ixarr rfl rfl Tryd.underlying62 hi28 hs28 rfl (by first | decide | omega) ?_; try (conv in (Act.put _ _ _) => simp only [Act.put, List.setIfInBounds_toArray, List.set_cons_succ, List.set_cons_zero]))
            | ((with_reducible refine g_at (d := 33) ?_); refine wpl_load1 rfl Tryd.underlying28 rfl (Blk.at_ (by first | assumption | exact Blk.back (by first | assumption | exact Ext.drew' (by assumption) | exact Ext.undrew (by assumption)) (by first | assumption | exact Blk.back (by first | assumption | exact Ext.drew' (by assumption) | exact Ext.undrew (by assumption)) (by first | assumption | exact Blk.back (by first | assumption | exact Ext.drew' (by assumption) | exact Ext.undrew (by assumption)) (by first | assumption | exact Blk.back (by first | assumption | exact Ext.drew' (by assumption) | exact Ext.undrew (by assumption)) (by first | assumption | exact Blk.back (by first | assumption | exact Ext.drew' (by assumption) | exact Ext.undrew (by assumption)) (by first | assumption | exact Blk.back (by first | assumption | exact Ext.drew' (by assumption) | exact Ext.undrew (by assumption)) (by first | assumption | exact Blk.back (by first | assumption | exact Ext.drew' (by assumption) | exact Ext.undrew (by assumption)) (by first | assumption | exact Blk.back (by first | assumption | exact Ext.drew' (by assumption) | exact Ext.undrew (by assumption)) (by first | assumption))))))))) (by first | exact at_w32 (by first | decide | omega | (simp <;> omega)) | exact at_b8 (by first | decide | omega | (simp <;> omega)) | rfl)) ?_; try (conv in (Act.put _ _ _) => simp only [Act.put, List.setIfInBounds_toArray, List.set_cons_succ, List.set_cons_zero]))
            | ((with_reducible refine g_at (d := 36) ?_); refine wpl_ixarr rfl rfl Tryd.underlying62 hi28 hs28 rfl (by first | decide | omega) ?_; try (conv in (Act.put _ _ _) => simp only [Act.put, List.setIfInBounds_toArray, List.set_cons_succ, List.set_cons_zero]))
            | ((with_reducible refine g_at (d := 37) ?_); refine wpl_load1 rfl Tryd.underlying28 rfl (Blk.at_ (by first | assumption | exact Blk.back (by first | assumption | exact Ext.drew' (by assumption) | exact Ext.undrew (by assumption)) (by first | assumption | exact Blk.back (by first | assumption | exact Ext.drew' (by assumption) | exact Ext.undrew (by assumption)) (by first | assumption | exact Blk.back (by first | assumption | exact Ext.drew' (by assumption) | exact Ext.undrew (by assumption)) (by first | assumption | exact Blk.back (by first | assumption | exact Ext.drew' (by assumption) | exact Ext.undrew (by assumption)) (by first | assumption | exact Blk.back (by first | assumption | exact Ext.drew' (by assumption) | exact Ext.undrew (by assumption)) (by first | assumption | exact Blk.back (by first | assumption | exact Ext.drew' (by assumption) | exact Ext.undrew (by assumption)) (by first | assumption | exact Blk.back (by first | assumption | exact Ext.drew' (by assumption) | exact Ext.undrew (by assumption)) (by first | assumption | exact Blk.back (by first | assumption | exact Ext.drew' (by assumption) | exact Ext.undrew (by assumption)) (by first | assumption))))))))) (by first | exact at_w32 (by first | decide | omega | (simp <;> omega)) | exact at_b8 (by first | decide | omega | (simp <;> omega)) | rfl)) ?_; try (conv in (Act.put _ _ _) => simp only [Act.put, List.setIfInBounds_toArray, List.set_cons_succ, List.set_cons_zero]))
            | ((with_reducible refine g_at (d := 41) ?_); refine wpl_ixarr rfl rfl Tryd.underlying62 hi28 hs28 rfl (by first | decide | omega) ?_; try (conv in (Act.put _ _ _) => simp only [Act.put, List.setIfInBounds_toArray, List.set_cons_succ, List.set_cons_zero]))
            | ((with_reducible refine g_at (d := 42) ?_); refine wpl_load1 rfl Tryd.underlying28 rfl (Blk.at_ (by first | assumption | exact Blk.back (by first | assumption | exact Ext.drew' (by assumption) | exact Ext.undrew (by assumption)) (by first | assumption | exact Blk.back (by first | assumption | exact Ext.drew' (by assumption) | exact Ext.undrew (by assumption)) (by first | assumption | exact Blk.back (by first | assumption | exact Ext.drew' (by assumption) | exact Ext.undrew (by assumption)) (by first | assumption | exact Blk.back (by first | assumption | exact Ext.drew' (by assumption) | exact Ext.undrew (by assumption)) (by first | assumption | exact Blk.back (by first | assumption | exact Ext.drew' (by assumption) | exact Ext.undrew (by assumption)) (by first | assumption | exact Blk.back (by first | assumption | exact Ext.drew' (by assumption) | exact Ext.undrew (by assumption)) (by first | assumption | exact Blk.back (by first | assumption | exact Ext.drew' (by assumption) | exact Ext.undrew (by assumption)) (by first | assumption | exact Blk.back (by first | assumption | exact Ext.drew' (by assumption) | exact Ext.undrew (by assumption)) (by first | assumption))))))))) (by first | exact at_w32 (by first | decide | omega | (simp <;> omega)) | exact at_b8 (by first | decide | omega | (simp <;> omega)) | rfl)) ?_; try (conv in (Act.put _ _ _) => simp only [Act.put, List.setIfInBounds_toArray, List.set_cons_succ, List.set_cons_zero]))
            | ((with_reducible refine g_at (d := 54) ?_); refine wpl_ixarr rfl rfl Tryd.underlying62 hi28 hs28 rfl (by first | decide | omega) ?_; try (conv in (Act.put _ _ _) => simp only [Act.put, List.setIfInBounds_toArray, List.set_cons_succ, List.set_cons_zero]))
            | ((with_reducible refine g_at (d := 55) ?_); refine wpl_load1 rfl Tryd.underlying28 rfl (Blk.at_ (by first | assumption | exact Blk.back (by first | assumption | exact Ext.drew' (by assumption) | exact Ext.undrew (by assumption)) (by first | assumption | exact Blk.back (by first | assumption | exact Ext.drew' (by assumption) | exact Ext.undrew (by assumption)) (by first | assumption | exact Blk.back (by first | assumption | exact Ext.drew' (by assumption) | exact Ext.undrew (by assumption)) (by first | assumption | exact Blk.back (by first | assumption | exact Ext.drew' (by assumption) | exact Ext.undrew (by assumption)) (by first | assumption | exact Blk.back (by first | assumption | exact Ext.drew' (by assumption) | exact Ext.undrew (by assumption)) (by first | assumption | exact Blk.back (by first | assumption | exact Ext.drew' (by assumption) | exact Ext.undrew (by assumption)) (by first | assumption | exact Blk.back (by first | assumption | exact Ext.drew' (by assumption) | exact Ext.undrew (by assumption)) (by first | assumption | exact Blk.back (by first | assumption | exact Ext.drew' (by assumption) | exact Ext.undrew (by assumption)) (by first | assumption))))))))) (by first | exact at_w32 (by first | decide | omega | (simp <;> omega)) | exact at_b8 (by first | decide | omega | (simp <;> omega)) | rfl)) ?_; try (conv in (Act.put _ _ _) => simp only [Act.put, List.setIfInBounds_toArray, List.set_cons_succ, List.set_cons_zero]))
            | ((with_reducible refine g_at (d := 66) ?_); refine wpl_ixarr rfl rfl Tryd.underlying62 hi28 hs28 rfl (by first | decide | omega) ?_; try (conv in (Act.put _ _ _) => simp only [Act.put, List.setIfInBounds_toArray, List.set_cons_succ, List.set_cons_zero]))
            | ((with_reducible refine g_at (d := 20) ?_); refine wpl_bin rfl rfl (by exact Go.Ch.run_shl32 _ _ _ _ _ 8 (by omega) _) ?_; try (conv in (Act.put _ _ _) => simp only [Act.put, List.setIfInBounds_toArray, List.set_cons_succ, List.set_cons_zero]))
            | ((with_reducible refine g_at (d := 23) ?_); refine wpl_bin rfl rfl (by exact Go.Ch.run_or32 _ _ _ _ _ _) ?_; try (conv in (Act.put _ _ _) => simp only [Act.put, List.setIfInBounds_toArray, List.set_cons_succ, List.set_cons_zero]))
            | ((with_reducible refine g_at (d := 47) ?_); refine wpl_bin rfl rfl (by exact Go.Ch.run_xor32 _ _ _ _ _ _) ?_; try (conv in (Act.put _ _ _) => simp only [Act.put, List.setIfInBounds_toArray, List.set_cons_succ, List.set_cons_zero]))
            | ((with_reducible refine g_at (d := 49) ?_); refine wpl_bin rfl rfl (by exact Go.Ch.run_shr32 _ _ _ _ _ 3 (by omega) _) ?_; try (conv in (Act.put _ _ _) => simp only [Act.put, List.setIfInBounds_toArray, List.set_cons_succ, List.set_cons_zero]))
            | ((with_reducible refine g_at (d := 50) ?_); refine wpl_bin rfl rfl (by exact Go.Ch.run_xor32 _ _ _ _ _ _) ?_; try (conv in (Act.put _ _ _) => simp only [Act.put, List.setIfInBounds_toArray, List.set_cons_succ, List.set_cons_zero]))
            | ((with_reducible refine g_at (d := 51) ?_); refine wpl_bin rfl rfl (by exact Go.Ch.run_add32 _ _ _ _ _ _) ?_; try (conv in (Act.put _ _ _) => simp only [Act.put, List.setIfInBounds_toArray, List.set_cons_succ, List.set_cons_zero]))
            | ((with_reducible refine g_at (d := 56) ?_); refine wpl_bin rfl rfl (by exact Go.Ch.run_add32 _ _ _ _ _ _) ?_; try (conv in (Act.put _ _ _) => simp only [Act.put, List.setIfInBounds_toArray, List.set_cons_succ, List.set_cons_zero]))
            | ((with_reducible refine g_at (d := 61) ?_); refine wpl_bin rfl rfl (by exact Go.Ch.run_xor32 _ _ _ _ _ _) ?_; try (conv in (Act.put _ _ _) => simp only [Act.put, List.setIfInBounds_toArray, List.set_cons_succ, List.set_cons_zero]))
            | ((with_reducible refine g_at (d := 63) ?_); refine wpl_bin rfl rfl (by exact Go.Ch.run_shr32 _ _ _ _ _ 10 (by omega) _) ?_; try (conv in (Act.put _ _ _) => simp only [Act.put, List.setIfInBounds_toArray, List.set_cons_succ, List.set_cons_zero]))
            | ((with_reducible refine g_at (d := 64) ?_); refine wpl_bin rfl rfl (by exact Go.Ch.run_xor32 _ _ _ _ _ _) ?_; try (conv in (Act.put _ _ _) => simp only [Act.put, List.setIfInBounds_toArray, List.set_cons_succ, List.set_cons_zero]))
            | ((with_reducible refine g_at (d := 65) ?_); refine wpl_bin rfl rfl (by exact Go.Ch.run_add32 _ _ _ _ _ _) ?_; try (conv in (Act.put _ _ _) => simp only [Act.put, List.setIfInBounds_toArray, List.set_cons_succ, List.set_cons_zero])))
          exact bodyPost_ret (results_cell_row rfl _ _ _ _ _ _ _ rfl hBs2 Tryd.underlying62 rfl (by simp [hsz62, hls])) rfl ⟨_, rfl, hx.trans (grown_below hgs2 (by have := hx1.size; omega) hx.size), rfl⟩

end Go.Proofs.YtamddohbpdbdmaaDoor
end
section
set_option linter.unusedVariables false
set_option linter.unusedSimpArgs false
namespace Go.Proofs.YtamddohbpdbdmaaDoor
open Go.RowKit Go.Ch

def consts : List UInt32 := [0x428a2f98, 0x71374491, 0xb5c0fbcf, 0xe9b5dba5, 0x3956c25b, 0x59f111f1, 0x923f82a4, 0xab1c5ed5, 0xd807aa98, 0x12835b01, 0x243185be, 0x550c7dc3, 0x72be5d74, 0x80deb1fe, 0x9bdc06a7, 0xc19bf174, 0xe49b69c1, 0xefbe4786, 0x0fc19dc6, 0x240ca1cc, 0x2de92c6f, 0x4a7484aa, 0x5cb0a9dc, 0x76f988da, 0x983e5152, 0xa831c66d, 0xb00327c8, 0xbf597fc7, 0xc6e00bf3, 0xd5a79147, 0x06ca6351, 0x14292967, 0x27b70a85, 0x2e1b2138, 0x4d2c6dfc, 0x53380d13, 0x650a7354, 0x766a0abb, 0x81c2c92e, 0x92722c85, 0xa2bfe8a1, 0xa81a664b, 0xc24b8b70, 0xc76c51a3, 0xd192e819, 0xd6990624, 0xf40e3585, 0x106aa070, 0x19a4c116, 0x1e376c08, 0x2748774c, 0x34b0bcb5, 0x391c0cb3, 0x4ed8aa4a, 0x5b9cca4f, 0x682e6ff3, 0x748f82ee, 0x78a5636f, 0x84c87814, 0x8cc70208, 0x90befffa, 0xa4506ceb, 0xbef9a3f7, 0xc67178f2]
/-- the table stands in its variable -/
def GK (w : World) : Prop := ∀ k, k < 64 → w.cell? ⟨0, k, none⟩ = some (w32 (consts.getD k 0))
theorem GK.ext {w w' : World} (h : GK w) (hx : Ext w w') : GK w' := fun k hk => cell_ext hx (h k hk)
theorem GK.extd {w w' : World} (h : GK w) (hx : Ext w.drew w') : GK w' := h.ext hx.undrew
theorem GK.at_ {w0 w : World} (h : GK w0) (hX : Ext w0 w) {k : Nat} (hk : k < 64) : ∀ v, v = .pointer (some ⟨0, k, none⟩) → AtCell (w32 (consts.getD k 0)) v w :=
  fun _ hv => ⟨_, hv, (h.ext hX) k hk⟩
theorem words_get (v : Words) (k : Nat) (h : k < 8) : (v.list.map w32).toArray[k]? = some (w32 (v.list.getD k 0)) := at_w32 (by simpa [Words.list] using h)
theorem len8 (v : Words) : v.list.length = 8 := rfl
/-- the first k words added -/
def addW (v u : Words) (k : Nat) : List UInt32 := (List.range 8).map fun i => if i < k then v.list.getD i 0 + u.list.getD i 0 else v.list.getD i 0
theorem addW_zero (v u : Words) : addW v u 0 = v.list := rfl
theorem addW_all (v u : Words) : addW v u 8 = (addWords v u).list := rfl
theorem length_addW (v u : Words) (k : Nat) : (addW v u k).length = 8 := by simp [addW]
theorem addW_get (v u : Words) (k : Nat) (h : k < 8) : (addW v u k).getD k 0 = v.list.getD k 0 := by
  unfold addW
  rw [List.getD_eq_getElem?_getD, List.getElem?_map, List.getElem?_range h]; simp
theorem addW_step (v u : Words) (k : Nat) (h : k < 8) : (addW v u k).set k ((addW v u k).getD k 0 + u.list.getD k 0) = addW v u (k + 1) := by
  rw [addW_get _ _ _ h]
  apply List.ext_getElem?
  intro j
  by_cases hj : j < 8
  · by_cases e : k = j
    · subst e
      rw [List.getElem?_set_self (by rw [length_addW]; exact h)]
      unfold addW
      rw [List.getElem?_map, List.getElem?_range h]; simp
    · rw [List.getElem?_set_ne e]
      unfold addW
      rw [List.getElem?_map, List.getElem?_map, List.getElem?_range hj]
      simp only [Option.map_some, Option.some.injEq]
      by_cases h1 : j < k
      · rw [if_pos h1, if_pos (by omega)]
      · rw [if_neg h1, if_neg (by omega)]
  · rw [List.getElem?_eq_none (by simp [length_addW]; omega), List.getElem?_eq_none (by simp [length_addW]; omega)]

set_option maxRecDepth 100000 in
set_option maxHeartbeats 8000000 in
theorem press_c (w : World) (v : Words) (bl : List UInt8) (hl : bl.length = 64) (hG : GK w) :
    Calls Tryd.prog 29 #[wds v, b64 bl] w (Ret fun v' w' => Ext w w' ∧ v' = wds (pressOf consts v bl)) := by
  obtain ⟨i28, hi28, hz28, hs28, hb28⟩ := info_parts infoU32
  have hsz28 := info_size infoU32
  obtain ⟨i5, hi5, hz5, hs5, hb5⟩ := info_parts infoU8
  have hsz5 := info_size infoU8
  obtain ⟨i29, hi29, hz29, hs29, hb29⟩ := info_parts infoW8
  have hsz29 := info_size infoW8
  obtain ⟨i54, hi54, hz54, hs54, hb54⟩ := info_parts infoB64
  have hsz54 := info_size infoB64
  obtain ⟨i62, hi62, hz62, hs62, hb62⟩ := info_parts infoW64
  have hsz62 := info_size infoW64
  have hls := length_sched bl
  unfold wds b64
  go_enter Tryd.func29, Tryd.ntmps29
  go_wp2_with (first
    | ((with_reducible refine g_at (d := 2) ?_); refine wpl_box (cs := (v.list.map w32).toArray) rfl rfl ?_; intro b2 w2 hB2 hb2 hx2; try (conv in (Act.put _ _ _) => simp only [Act.put, List.setIfInBounds_toArray, List.set_cons_succ, List.set_cons_zero]))
    | ((with_reducible refine g_at (d := 3) ?_); refine wpl_box (cs := (bl.map bU).toArray) rfl rfl ?_; intro b3 w3 hB3 hb3 hx3; try (conv in (Act.put _ _ _) => simp only [Act.put, List.setIfInBounds_toArray, List.set_cons_succ, List.set_cons_zero]))
    | ((with_reducible refine g_at (d := 4) ?_); refine wpl_alloc hi29 hz29 (cs := ((zeros 8).map w32).toArray) rfl ?_; intro b4 w4 hB4 hb4 hx4; try (conv in (Act.put _ _ _) => simp only [Act.put, List.setIfInBounds_toArray, List.set_cons_succ, List.set_cons_zero]))
    | ((with_reducible refine g_at (d := 17) ?_); refine wpl_ixarr rfl rfl Tryd.underlying62 hi28 hs28 rfl (by first | decide | omega) ?_; try (conv in (Act.put _ _ _) => simp only [Act.put, List.setIfInBounds_toArray, List.set_cons_succ, List.set_cons_zero]))
    | ((with_reducible refine g_at (d := 18) ?_); refine wpl_load1 rfl Tryd.underlying28 rfl (Blk.at_ (by first | assumption | exact Blk.back (by first | assumption | exact Ext.drew' (by assumption) | exact Ext.undrew (by assumption)) (by first | assumption | exact Blk.back (by first | assumption | exact Ext.drew' (by assumption) | exact Ext.undrew (by assumption)) (by first | assumption | exact Blk.back (by first | assumption | exact Ext.drew' (by assumption) | exact Ext.undrew (by assumption)) (by first | assumption | exact Blk.back (by first | assumption | exact Ext.drew' (by assumption) | exact Ext.undrew (by assumption)) (by first | assumption | exact Blk.back (by first | assumption | exact Ext.drew' (by assumption) | exact Ext.undrew (by assumption)) (by first | assumption | exact Blk.back (by first | assumption | exact Ext.drew' (by assumption) | exact Ext.undrew (by assumption)) (by first | assumption | exact Blk.back (by first | assumption | exact Ext.drew' (by assumption) | exact Ext.undrew (by assumption)) (by first | assumption | exact Blk.back (by first | assumption | exact Ext.drew' (by assumption) | exact Ext.undrew (by assumption)) (by first | assumption))))))))) (by first | exact at_w32 (by first | decide | omega | (simp <;> omega)) | exact at_b8 (by first | decide | omega | (simp <;> omega)) | rfl)) ?_; try (conv in (Act.put _ _ _) => simp only [Act.put, List.setIfInBounds_toArray, List.set_cons_succ, List.set_cons_zero]))
    | ((with_reducible refine g_at (d := 20) ?_); refine wpl_ixarr rfl rfl Tryd.underlying62 hi28 hs28 rfl (by first | decide | omega) ?_; try (conv in (Act.put _ _ _) => simp only [Act.put, List.setIfInBounds_toArray, List.set_cons_succ, List.set_cons_zero]))
    | ((with_reducible refine g_at (d := 21) ?_); refine wpl_load1 rfl Tryd.underlying28 rfl (Blk.at_ (by first | assumption | exact Blk.back (by first | assumption | exact Ext.drew' (by assumption) | exact Ext.undrew (by assumption)) (by first | assumption | exact Blk.back (by first | assumption | exact Ext.drew' (by assumption) | exact Ext.undrew (by assumption)) (by first | assumption | exact Blk.back (by first | assumption | exact Ext.drew' (by assumption) | exact Ext.undrew (by assumption)) (by first | assumption | exact Blk.back (by first | assumption | exact Ext.drew' (by assumption) | exact Ext.undrew (by assumption)) (by first | assumption | exact Blk.back (by first | assumption | exact Ext.drew' (by assumption) | exact Ext.undrew (by assumption)) (by first | assumption | exact Blk.back (by first | assumption | exact Ext.drew' (by assumption) | exact Ext.undrew (by assumption)) (by first | assumption | exact Blk.back (by first | assumption | exact Ext.drew' (by assumption) | exact Ext.undrew (by assumption)) (by first | assumption | exact Blk.back (by first | assumption | exact Ext.drew' (by assumption) | exact Ext.undrew (by assumption)) (by first | assumption))))))))) (by first | exact at_w32 (by first | decide | omega | (simp <;> omega)) | exact at_b8 (by first | decide | omega | (simp <;> omega)) | rfl)) ?_; try (conv in (Act.put _ _ _) => simp only [Act.put, List.setIfInBounds_toArray, List.set_cons_succ, List.set_cons_zero]))
    | ((with_reducible refine g_at (d := 29) ?_); refine wpl_ixarr rfl rfl Tryd.underlying29 hi28 hs28 rfl (by first | decide | omega) ?_; try (conv in (Act.put _ _ _) => simp only [Act.put, List.setIfInBounds_toArray, List.set_cons_succ, List.set_cons_zero]))
    | ((with_reducible refine g_at (d := 30) ?_); refine wpl_load1 rfl Tryd.underlying28 rfl (Blk.at_ (by first | assumption | exact Blk.back (by first | assumption | exact Ext.drew' (by assumption) | exact Ext.undrew (by assumption)) (by first | assumption | exact Blk.back (by first | assumption | exact Ext.drew' (by assumption) | exact Ext.undrew (by assumption)) (by first | assumption | exact Blk.back (by first | assumption | exact Ext.drew' (by assumption) | exact Ext.undrew (by assumption)) (by first | assumption | exact Blk.back (by first | assumption | exact Ext.drew' (by assumption) | exact Ext.undrew (by assumption)) (by first | assumption | exact Blk.back (by first | assumption | exact Ext.drew' (by assumption) | exact Ext.undrew (by assumption)) (by first | assumption | exact Blk.back (by first | assumption | exact Ext.drew' (by assumption) | exact Ext.undrew (by assumption)) (by first | assumption | exact Blk.back (by first | assumption | exact Ext.drew' (by assumption) | exact Ext.undrew (by assumption)) (by first | assumption | exact Blk.back (by first | assumption | exact Ext.drew' (by assumption) | exact Ext.undrew (by assumption)) (by first | assumption))))))))) (by first | exact at_w32 (by first | decide | omega | (simp <;> omega)) | exact at_b8 (by first | decide | omega | (simp <;> omega)) | rfl)) ?_; try (conv in (Act.put _ _ _) => simp only [Act.put, List.setIfInBounds_toArray, List.set_cons_succ, List.set_cons_zero]))
    | ((with_reducible refine g_at (d := 32) ?_); refine wpl_ixarr rfl rfl Tryd.underlying29 hi28 hs28 rfl (by first | decide | omega) ?_; try (conv in (Act.put _ _ _) => simp only [Act.put, List.setIfInBounds_toArray, List.set_cons_succ, List.set_cons_zero]))
    | ((with_reducible refine g_at (d := 33) ?_); refine wpl_load1 rfl Tryd.underlying28 rfl (Blk.at_ (by first | assumption | exact Blk.back (by first | assumption | exact Ext.drew' (by assumption) | exact Ext.undrew (by assumption)) (by first | assumption | exact Blk.back (by first | assumption | exact Ext.drew' (by assumption) | exact Ext.undrew (by assumption)) (by first | assumption | exact Blk.back (by first | assumption | exact Ext.drew' (by assumption) | exact Ext.undrew (by assumption)) (by first | assumption | exact Blk.back (by first | assumption | exact Ext.drew' (by assumption) | exact Ext.undrew (by assumption)) (by first | assumption | exact Blk.back (by first | assumption | exact Ext.drew' (by assumption) | exact Ext.undrew (by assumption)) (by first | assumption | exact Blk.back (by first | assumption | exact Ext.drew' (by assumption) | exact Ext.undrew (by assumption)) (by first | assumption | exact Blk.back (by first | assumption | exact Ext.drew' (by assumption) | exact Ext.undrew (by assumption)) (by first | assumption | exact Blk.back (by first | assumption | exact Ext.drew' (by assumption) | exact Ext.undrew (by assumption)) (by first | assumption))))))))) (by first | exact at_w32 (by first | decide | omega | (simp <;> omega)) | exact at_b8 (by first | decide | omega | (simp <;> omega)) | rfl)) ?_; try (conv in (Act.put _ _ _) => simp only [Act.put, List.setIfInBounds_toArray, List.set_cons_succ, List.set_cons_zero]))
    | ((with_reducible refine g_at (d := 35) ?_); refine wpl_ixarr rfl rfl Tryd.underlying29 hi28 hs28 rfl (by first | decide | omega) ?_; try (conv in (Act.put _ _ _) => simp only [Act.put, List.setIfInBounds_toArray, List.set_cons_succ, List.set_cons_zero]))
    | ((with_reducible refine g_at (d := 22) ?_); refine wpl_bin rfl rfl (by exact Go.Ch.run_add32 _ _ _ _ _ _) ?_; try (conv in (Act.put _ _ _) => simp only [Act.put, List.setIfInBounds_toArray, List.set_cons_succ, List.set_cons_zero]))
    | ((with_reducible refine g_at (d := 34) ?_); refine wpl_bin rfl rfl (by exact Go.Ch.run_add32 _ _ _ _ _ _) ?_; try (conv in (Act.put _ _ _) => simp only [Act.put, List.setIfInBounds_toArray, List.set_cons_succ, List.set_cons_zero])))
  have hB3' := hB3.ext hx4
  have hB2' := (hB2.ext hx3).ext hx4
  have hx14 : Ext w w4 := (by first | exact Below.refl _ _ | assumption | exact Ext.drew' (by assumption) | exact Ext.undrew (by assumption) | exact Ext.back (by first | assumption | exact Ext.drew' (by assumption) | exact Ext.undrew (by assumption)) (by first | exact Below.refl _ _ | assumption | exact Ext.drew' (by assumption) | exact Ext.undrew (by assumption) | exact Ext.back (by first | assumption | exact Ext.drew' (by assumption) | exact Ext.undrew (by assumption)) (by first | exact Below.refl _ _ | assumption | exact Ext.drew' (by assumption) | exact Ext.undrew (by assumption) | exact Ext.back (by first | assumption | exact Ext.drew' (by assumption) | exact Ext.undrew (by assumption)) (by first | exact Below.refl _ _ | assumption | exact Ext.drew' (by assumption) | exact Ext.undrew (by assumption) | exact Ext.back (by first | assumption | exact Ext.drew' (by assumption) | exact Ext.undrew (by assumption)) (by first | exact Below.refl _ _ | assumption | exact Ext.drew' (by assumption) | exact Ext.undrew (by assumption) | exact Ext.back (by first | assumption | exact Ext.drew' (by assumption) | exact Ext.undrew (by assumption)) (by first | exact Below.refl _ _ | assumption | exact Ext.drew' (by assumption) | exact Ext.undrew (by assumption) | exact Ext.back (by first | assumption | exact Ext.drew' (by assumption) | exact Ext.undrew (by assumption)) (by first | exact Below.refl _ _ | assumption | exact Ext.drew' (by assumption) | exact Ext.undrew (by assumption) | exact Ext.back (by first | assumption | exact Ext.drew' (by assumption) | exact Ext.undrew (by assumption)) (by first | exact Below.refl _ _ | assumption | exact Ext.drew' (by assumption) | exact Ext.undrew (by assumption) | exact Ext.back (by first | assumption | exact Ext.drew' (by assumption) | exact Ext.undrew (by assumption)) (by first | exact Below.refl _ _ | assumption | exact Ext.drew' (by assumption) | exact Ext.undrew (by assumption))))))))))
  have hs4 := hx14.size
  have h24 : b2 < b4 := Nat.lt_of_lt_of_le ((hB2.ext hx3).lt) hb4
  go_upto_region 1 with fail
  go_cut [5, 6] from 9 (fun s5 s6 wx => ∃ b5 b6 : Nat, s5 = .pointer (some ⟨b5, 0, none⟩) ∧ s6 = .pointer (some ⟨b6, 0, none⟩) ∧ Blk wx b5 62 ((sched bl).map w32).toArray ∧ Blk wx b6 29 (v.list.map w32).toArray ∧
    w4.heap.size ≤ b5 ∧ w4.heap.size ≤ b6 ∧ b5 ≠ b6 ∧ Ext w4 wx)
  case first =>
    refine wp_region_rel_d 5 38 2 Ext (by kernel_rfl) (by kernel_rfl) (by kernel_rfl) (by kernel_rfl) rfl rfl (fun _ => Below.refl _ _) (fun _ _ _ => Ext.tr) rfl ?_
    refine r_loadrow Tryd.underlying54 rfl rfl hB3' (by simp [hsz54, hl]) ?_
    refine r_callX _ Tryd.func35 (by kernel_rfl) (by kernel_rfl) rfl (fun w hX => sched_c _ bl hl) ?_
    refine r_loadrow Tryd.underlying29 rfl rfl hB2' (by simp [hsz29, len8]) ?_
    refine r_alloc hi62 hz62 (cs := ((zeros 64).map w32).toArray) rfl ?_
    refine r_alloc hi29 hz29 (cs := ((zeros 8).map w32).toArray) rfl ?_
    refine And.intro ?_ ?_
    · intro wR1 hxR1; have gxR1 := hxR1.undrew
      refine Fin_eq ?_
      refine Fin_eq ?_
      refine Fin_eq ?_
      intro v5 h5
      intro v6 h6
      show wpList _ _ _ _ _ _
      simp only [Act.put, List.setIfInBounds_toArray, List.set_cons_succ, List.set_cons_zero, Array.getD_eq_getD_getElem?, List.getElem?_toArray, List.getElem?_cons_succ, List.getElem?_cons_zero, Option.getD_some]
      simp only [List.toList_toArray, List.drop_succ_cons, List.drop_zero]
      obtain ⟨b5, rfl, hB5, hb5⟩ := h5
      obtain ⟨b6, rfl, hB6, hb6⟩ := h6
      have hne : b5 ≠ b6 := hB5.ne hB6 (by decide)
      have hsR := gxR1.size
      unfold ws64
      go_wp2_with (first
        | ((with_reducible refine g_storeat (n := 5) ?_); refine wpl_storerow rfl rfl hi62 (by simp [hs62, hls]) (by intro u hu; exact w32_one _ u (by simpa using hu)) hB5 (by simp [zeros, hls]) ?_; intro ws5 hBs5 hgs5 hzs5; try (conv in (Act.put _ _ _) => simp only [Act.put, List.setIfInBounds_toArray, List.set_cons_succ, List.set_cons_zero]))
        | ((with_reducible refine g_storeat (n := 6) ?_); refine wpl_storerow rfl rfl hi29 (by simp [hs29, len8]) (words_one v) (hB6.grown hgs5 (by simp; omega)) (by simp [zeros, len8]) ?_; intro ws6 hBs6 hgs6 hzs6; try (conv in (Act.put _ _ _) => simp only [Act.put, List.setIfInBounds_toArray, List.set_cons_succ, List.set_cons_zero]))
        | ((with_reducible refine g_at (d := 17) ?_); refine wpl_ixarr rfl rfl Tryd.underlying62 hi28 hs28 rfl (by first | decide | omega) ?_; try (conv in (Act.put _ _ _) => simp only [Act.put, List.setIfInBounds_toArray, List.set_cons_succ, List.set_cons_zero]))
        | ((with_reducible refine g_at (d := 18) ?_); refine wpl_load1 rfl Tryd.underlying28 rfl (Blk.at_ (by first | assumption | exact Blk.back (by first | assumption | exact Ext.drew' (by assumption) | exact Ext.undrew (by assumption)) (by first | assumption | exact Blk.back (by first | assumption | exact Ext.drew' (by assumption) | exact Ext.undrew (by assumption)) (by first | assumption | exact Blk.back (by first | assumption | exact Ext.drew' (by assumption) | exact Ext.undrew (by assumption)) (by first | assumption | exact Blk.back (by first | assumption | exact Ext.drew' (by assumption) | exact Ext.undrew (by assumption)) (by first | assumption | exact Blk.back (by first | assumption | exact Ext.drew' (by assumption) | exact Ext.undrew (by assumption)) (by first | assumption | exact Blk.back (by first | assumption | exact Ext.drew' (by assumption) | exact Ext.undrew (by assumption)) (by first | assumption | exact Blk.back (by first | assumption | exact Ext.drew' (by assumption) | exact Ext.undrew (by assumption)) (by first | assumption | exact Blk.back (by first | assumption | exact Ext.drew' (by assumption) | exact Ext.undrew (by assumption)) (by first | assumption))))))))) (by first | exact at_w32 (by first | decide | omega | (simp <;> omega)) | exact at_b8 (by first | decide | omega | (simp <;> omega)) | rfl)) ?_; try (conv in (Act.put _ _ _) => simp only [Act.put, List.setIfInBounds_toArray, List.set_cons_succ, List.set_cons_zero]))
        | ((with_reducible refine g_at (d := 20) ?_); refine wpl_ixarr rfl rfl Tryd.underlying62 hi28 hs28 rfl (by first | decide | omega) ?_; try (conv in (Act.put _ _ _) => simp only [Act.put, List.setIfInBounds_toArray, List.set_cons_succ, List.set_cons_zero]))
        | ((with_reducible refine g_at (d := 21) ?_); refine wpl_load1 rfl Tryd.underlying28 rfl (Blk.at_ (by first | assumption | exact Blk.back (by first | assumption | exact Ext.drew' (by assumption) | exact Ext.undrew (by assumption)) (by first | assumption | exact Blk.back (by first | assumption | exact Ext.drew' (by assumption) | exact Ext.undrew (by assumption)) (by first | assumption | exact Blk.back (by first | assumption | exact Ext.drew' (by assumption) | exact Ext.undrew (by assumption)) (by first | assumption | exact Blk.back (by first | assumption | exact Ext.drew' (by assumption) | exact Ext.undrew (by assumption)) (by first | assumption | exact Blk.back (by first | assumption | exact Ext.drew' (by assumption) | exact Ext.undrew (by assumption)) (by first | assumption | exact Blk.back (by first | assumption | exact Ext.drew' (by assumption) | exact Ext.undrew (by assumption)) (by first | assumption | exact Blk.back (by first | assumption | exact Ext.drew' (by assumption) | exact Ext.undrew (by assumption)) (by first | assumption | exact Blk.back (by first | assumption | exact Ext.drew' (by assumption) | exact Ext.undrew (by assumption)) (by first | assumption))))))))) (by first | exact at_w32 (by first | decide | omega | (simp <;> omega)) | exact at_b8 (by first | decide | omega | (simp <;> omega)) | rfl)) ?_; try (conv in (Act.put _ _ _) => simp only [Act.put, List.setIfInBounds_toArray, List.set_cons_succ, List.set_cons_zero]))
        | ((with_reducible refine g_at (d := 29) ?_); refine wpl_ixarr rfl rfl Tryd.underlying29 hi28 hs28 rfl (by first | decide | omega) ?_; try (conv in (Act.put _ _ _) => simp only [Act.put, List.setIfInBounds_toArray, List.set_cons_succ, List.set_cons_zero]))
        | ((with_reducible refine g_at (d := 30) ?_); refine wpl_load1 rfl Tryd.underlying28 rfl (Blk.at_ (by first | assumption | exact Blk.back (by first | assumption | exact Ext.drew' (by assumption) | exact Ext.undrew (by assumption)) (by first | assumption | exact Blk.back (by first | assumption | exact Ext.drew' (by assumption) | exact Ext.undrew (by assumption)) (by first | assumption | exact Blk.back (by first | assumption | exact Ext.drew' (by assumption) | exact Ext.undrew (by assumption)) (by first | assumption | exact Blk.back (by first | assumption | exact Ext.drew' (by assumption) | exact Ext.undrew (by assumption)) (by first | assumption | exact Blk.back (by first | assumption | exact Ext.drew' (by assumption) | exact Ext.undrew (by assumption)) (by first | assumption | exact Blk.back (by first | assumption | exact Ext.drew' (by assumption) | exact Ext.undrew (by assumption)) (by first | assumption | exact Blk.back (by first | assumption | exact Ext.drew' (by assumption) | exact Ext.undrew (by assumption)) (by first | assumption | exact Blk.back (by first | assumption | exact Ext.drew' (by assumption) | exact Ext.undrew (by assumption)) (by first | assumption))))))))) (by first | exact at_w32 (by first | decide | omega | (simp <;> omega)) | exact at_b8 (by first | decide | omega | (simp <;> omega)) | rfl)) ?_; try (conv in (Act.put _ _ _) => simp only [Act.put, List.setIfInBounds_toArray, List.set_cons_succ, List.set_cons_zero]))
        | ((with_reducible refine g_at (d := 32) ?_); refine wpl_ixarr rfl rfl Tryd.underlying29 hi28 hs28 rfl (by first | decide | omega) ?_; try (conv in (Act.put _ _ _) => simp only [Act.put, List.setIfInBounds_toArray, List.set_cons_succ, List.set_cons_zero]))
        | ((with_reducible refine g_at (d := 33) ?_); refine wpl_load1 rfl Tryd.underlying28 rfl (Blk.at_ (by first | assumption | exact Blk.back (by first | assumption | exact Ext.drew' (by assumption) | exact Ext.undrew (by assumption)) (by first | assumption | exact Blk.back (by first | assumption | exact Ext.drew' (by assumption) | exact Ext.undrew (by assumption)) (by first | assumption | exact Blk.back (by first | assumption | exact Ext.drew' (by assumption) | exact Ext.undrew (by assumption)) (by first | assumption | exact Blk.back (by first | assumption | exact Ext.drew' (by assumption) | exact Ext.undrew (by assumption)) (by first | assumption | exact Blk.back (by first | assumption | exact Ext.drew' (by assumption) | exact Ext.undrew (by assumption)) (by first | assumption | exact Blk.back (by first | assumption | exact Ext.drew' (by assumption) | exact Ext.undrew (by assumption)) (by first | assumption | exact Blk.back (by first | assumption | exact Ext.drew' (by assumption) | exact Ext.undrew (by assumption)) (by first | assumption | exact Blk.back (by first | assumption | exact Ext.drew' (by assumption) | exact Ext.undrew (by assumption)) (by first | assumption))))))))) (by first | exact at_w32 (by first | decide | omega | (simp <;> omega)) | exact at_b8 (by first | decide | omega | (simp <;> omega)) | rfl)) ?_; try (conv in (Act.put _ _ _) => simp only [Act.put, List.setIfInBounds_toArray, List.set_cons_succ, List.set_cons_zero]))
        | ((with_reducible refine g_at (d := 35) ?_); refine wpl_ixarr rfl rfl Tryd.underlying29 hi28 hs28 rfl (by first | decide | omega) ?_; try (conv in (Act.put _ _ _) => simp only [Act.put, List.setIfInBounds_toArray, List.set_cons_succ, List.set_cons_zero]))
        | ((with_reducible refine g_at (d := 22) ?_); refine wpl_bin rfl rfl (by exact Go.Ch.run_add32 _ _ _ _ _ _) ?_; try (conv in (Act.put _ _ _) => simp only [Act.put, List.setIfInBounds_toArray, List.set_cons_succ, List.set_cons_zero]))
        | ((with_reducible refine g_at (d := 34) ?_); refine wpl_bin rfl rfl (by exact Go.Ch.run_add32 _ _ _ _ _ _) ?_; try (conv in (Act.put _ _ _) => simp only [Act.put, List.setIfInBounds_toArray, List.set_cons_succ, List.set_cons_zero])))
      go_meet
      case rel => exact ⟨b5, b6, rfl, rfl, hBs5.grown hgs6 (by simp; omega), hBs6, hb5, hb6, hne, (gxR1.trans (grown_below hgs5 hb5 hsR)).trans (grown_below hgs6 hb6 (by omega))⟩
    · intro wR1 hxR1; have gxR1 := hxR1.undrew
      refine FinM_eq rfl ?_
      refine FinM_eq rfl ?_
      refine FinM_skip rfl ?_
      refine FinM_pred rfl ?_; intro v5 h5
      refine FinM_pred rfl ?_; intro v6 h6
      show wpList _ _ _ _ _ _
      simp only [List.filterMap_cons, List.filterMap_nil, List.range, List.range.loop, List.drop, List.getElem?_toArray, List.getElem?_cons_succ, List.getElem?_cons_zero, List.size_toArray, List.length_cons, List.length_nil]
      simp only [Act.put, List.setIfInBounds_toArray, List.set_cons_succ, List.set_cons_zero, Array.getD_eq_getD_getElem?, List.getElem?_toArray, List.getElem?_cons_succ, List.getElem?_cons_zero, Option.getD_some]
      obtain ⟨b5, rfl, hB5, hb5⟩ := h5
      obtain ⟨b6, rfl, hB6, hb6⟩ := h6
      have hne : b5 ≠ b6 := hB5.ne hB6 (by decide)
      have hsR := gxR1.size
      have hb25 : b5 ≠ b2 := by have := hB2'.lt; have hb5' : w4.heap.size ≤ b5 := hb5; omega
      have HB := Lib.hid (hB2'.ext gxR1)
      unfold ws64
      ((with_reducible refine g_storeat (n := 5) ?_); refine wpl_storerow rfl rfl hi62 (by simp [hs62, hls]) (by intro u hu; exact w32_one _ u (by simpa using hu)) hB5 (by simp [zeros, hls]) ?_; intro ws5 hBs5 hgs5 hzs5)
      ((with_reducible refine g_at (d := 11) ?_); refine wpl_loadrow (cs := (v.list.map w32).toArray) (t' := 29) rfl (HB.out.grown hgs5 (by simp; exact hb25)) Tryd.underlying29 rfl (by simp [hsz29, len8]) ?_; try (conv in (Act.put _ _ _) => simp only [Act.put, List.setIfInBounds_toArray, List.set_cons_succ, List.set_cons_zero]))
      ((with_reducible refine g_storeat (n := 6) ?_); refine wpl_storerow rfl rfl hi29 (by simp [hs29, len8]) (words_one v) (hB6.grown hgs5 (by simp; omega)) (by simp [zeros, len8]) ?_; intro ws6 hBs6 hgs6 hzs6)
      go_wp2_with fail
      go_meet
      case rel => exact ⟨b5, b6, rfl, rfl, hBs5.grown hgs6 (by simp; omega), hBs6, hb5, hb6, hne, (gxR1.trans (grown_below hgs5 hb5 hsR)).trans (grown_below hgs6 hb6 (by omega))⟩
  case rest =>
    obtain ⟨b5, b6, rfl, rfl, hB5, hB6, hb5, hb6, hne, hxc⟩ := hcut
    have hB2c := hB2'.ext hxc
    have hB4c := hB4.ext hxc
    have h4lt := hB4.lt
    have hb4' : w.heap.size ≤ b4 := by have h2 := hx2.size; have h3 := hx3.size; omega
    have hxw : Ext w wc := hx14.tr hxc
    have hlt2 := hB2'.lt
    go_wp2_with fail
    go_loopw [12] (fun i wr => ∃ k : Nat, k ≤ 64 ∧ i = .int .i64 k ∧ Blk wr b5 62 ((sched bl).map w32).toArray ∧ Blk wr b6 29 ((roundsN consts (sched bl) v k).list.map w32).toArray ∧
      Blk wr b2 29 (v.list.map w32).toArray ∧ Blk wr b4 29 ((zeros 8).map w32).toArray ∧ Ext w wr) (fun i _ => 64 - (intOf i).toNat)
    case atStart => exact ⟨0, by omega, rfl, hB5, hB6, hB2c, hB4c, hxw⟩
    case round =>
      obtain ⟨k, hk, rfl, hBw, hBv, hB2r, hB4r, hx⟩ := hrel
      by_cases hlt : k < 64
      · have hd64 : decide ((k : Int) < 64) = true := by simp; omega
        go_wp2_with fail
        refine wp_region_rel 9 38 Ext (by kernel_rfl) (by kernel_rfl) (by kernel_rfl) rfl rfl (fun _ => Below.refl _ _) (fun _ _ _ => Ext.tr) ?_
        refine r_loadrow Tryd.underlying29 rfl rfl hBv (by simp [hsz29, len8]) ?_
        refine r_move _ rfl (stays_eq _) ?_
        refine r_ixarr Tryd.underlying62 hi28 hs28 rfl rfl rfl (by first | decide | omega) ?_
        refine r_load1 Tryd.underlying28 rfl rfl hBw (at_w32 (by omega)) ?_
        refine r_move _ rfl (stays_eq _) ?_
        refine r_ixarr Tryd.underlying62 hi28 hs28 rfl rfl rfl (by first | decide | omega) ?_
        refine r_load Tryd.underlying28 rfl (fun v w hX h => (hG.ext hx).at_ hX.undrew hlt v h) ?_
        refine r_bin rfl rfl (by intro w; exact Go.Ch.run_add32 _ _ _ _ _ _) ?_
        refine r_callX _ Tryd.func36 (by kernel_rfl) (by kernel_rfl) rfl (fun w hX => round_c _ (roundsN consts (sched bl) v k) ((sched bl).getD k 0 + consts.getD k 0)) ?_
        intro wR5 hxR5; have gxR5 := hxR5.undrew
        refine Fin_eq ?_
        refine Fin_eq ?_
        refine Fin_eq ?_
        refine Fin_eq ?_
        refine Fin_eq ?_
        refine Fin_eq ?_
        refine Fin_eq ?_
        refine Fin_eq ?_
        refine Fin_eq ?_
        show wpList _ _ _ _ _ _
        simp only [Act.put, List.setIfInBounds_toArray, List.set_cons_succ, List.set_cons_zero, Array.getD_eq_getD_getElem?, List.getElem?_toArray, List.getElem?_cons_succ, List.getElem?_cons_zero, Option.getD_some]
        simp only [List.toList_toArray, List.drop_succ_cons, List.drop_zero]
        have hBq := hBw.ext gxR5
        have hBu := hBv.ext gxR5
        have hB2q := hB2r.ext gxR5
        have hB4q := hB4r.ext gxR5
        have hxq : Ext w wR5 := hx.tr gxR5
        unfold wds
        go_wp2_with (first
          | ((with_reducible refine g_storeat (n := 6) ?_); refine wpl_storerow rfl rfl hi29 (by simp [hs29, len8]) (words_one _) hBu (by simp [len8]) ?_; intro ws6 hBs6 hgs6 hzs6; try (conv in (Act.put _ _ _) => simp only [Act.put, List.setIfInBounds_toArray, List.set_cons_succ, List.set_cons_zero]))
          | ((with_reducible refine g_at (d := 17) ?_); refine wpl_ixarr rfl rfl Tryd.underlying62 hi28 hs28 rfl (by first | decide | omega) ?_; try (conv in (Act.put _ _ _) => simp only [Act.put, List.setIfInBounds_toArray, List.set_cons_succ, List.set_cons_zero]))
          | ((with_reducible refine g_at (d := 18) ?_); refine wpl_load1 rfl Tryd.underlying28 rfl (Blk.at_ (by first | assumption | exact Blk.back (by first | assumption | exact Ext.drew' (by assumption) | exact Ext.undrew (by assumption)) (by first | assumption | exact Blk.back (by first | assumption | exact Ext.drew' (by assumption) | exact Ext.undrew (by assumption)) (by first | assumption | exact Blk.back (by first | assumption | exact Ext.drew' (by assumption) | exact Ext.undrew (by assumption)) (by first | assumption | exact Blk.back (by first | assumption | exact Ext.drew' (by assumption) | exact Ext.undrew (by assumption)) (by first | assumption | exact Blk.back (by first | assumption | exact Ext.drew' (by assumption) | exact Ext.undrew (by assumption)) (by first | assumption | exact Blk.back (by first | assumption | exact Ext.drew' (by assumption) | exact Ext.undrew (by assumption)) (by first | assumption | exact Blk.back (by first | assumption | exact Ext.drew' (by assumption) | exact Ext.undrew (by assumption)) (by first | assumption | exact Blk.back (by first | assumption | exact Ext.drew' (by assumption) | exact Ext.undrew (by assumption)) (by first | assumption))))))))) (by first | exact at_w32 (by first | decide | omega | (simp <;> omega)) | exact at_b8 (by first | decide | omega | (simp <;> omega)) | rfl)) ?_; try (conv in (Act.put _ _ _) => simp only [Act.put, List.setIfInBounds_toArray, List.set_cons_succ, List.set_cons_zero]))
          | ((with_reducible refine g_at (d := 20) ?_); refine wpl_ixarr rfl rfl Tryd.underlying62 hi28 hs28 rfl (by first | decide | omega) ?_; try (conv in (Act.put _ _ _) => simp only [Act.put, List.setIfInBounds_toArray, List.set_cons_succ, List.set_cons_zero]))
          | ((with_reducible refine g_at (d := 21) ?_); refine wpl_load1 rfl Tryd.underlying28 rfl (Blk.at_ (by first | assumption | exact Blk.back (by first | assumption | exact Ext.drew' (by assumption) | exact Ext.undrew (by assumption)) (by first | assumption | exact Blk.back (by first | assumption | exact Ext.drew' (by assumption) | exact Ext.undrew (by assumption)) (by first | assumption | exact Blk.back (by first | assumption | exact Ext.drew' (by assumption) | exact Ext.undrew (by assumption)) (by first | assumption | exact Blk.back (by first | assumption | exact Ext.drew' (by assumption) | exact Ext.undrew (by assumption)) (by first | assumption | exact Blk.back (by first | assumption | exact Ext.drew' (by assumption) | exact Ext.undrew (by assumption)) (by first | assumption | exact Blk.back (by first | assumption | exact Ext.drew' (by assumption) | exact Ext.undrew (by assumption)) (by first | assumption | exact Blk.back (by first | assumption | exact Ext.drew' (by assumption) | exact Ext.undrew (by assumption)) (by first | assumption | exact Blk.back (by first | assumption | exact Ext.drew' (by assumption) | exact Ext.undrew (by assumption)) (by first | assumption))))))))) (by first | exact at_w32 (by first | decide | omega | (simp <;> omega)) | exact at_b8 (by first | decide | omega | (simp <;> omega)) | rfl)) ?_; try (conv in (Act.put _ _ _) => simp only [Act.put, List.setIfInBounds_toArray, List.set_cons_succ, List.set_cons_zero]))
          | ((with_reducible refine g_at (d := 29) ?_); refine wpl_ixarr rfl rfl Tryd.underlying29 hi28 hs28 rfl (by first | decide | omega) ?_; try (conv in (Act.put _ _ _) => simp only [Act.put, List.setIfInBounds_toArray, List.set_cons_succ, List.set_cons_zero]))
          | ((with_reducible refine g_at (d := 30) ?_); refine wpl_load1 rfl Tryd.underlying28 rfl (Blk.at_ (by first | assumption | exact Blk.back (by first | assumption | exact Ext.drew' (by assumption) | exact Ext.undrew (by assumption)) (by first | assumption | exact Blk.back (by first | assumption | exact Ext.drew' (by assumption) | exact Ext.undrew (by assumption)) (by first | assumption | exact Blk.back (by first | assumption | exact Ext.drew' (by assumption) | exact Ext.undrew (by assumption)) (by first | assumption | exact Blk.back (by first | assumption | exact Ext.drew' (by assumption) | exact Ext.undrew (by assumption)) (by first | assumption | exact Blk.back (by first | assumption | exact Ext.drew' (by assumption) | exact Ext.undrew (by assumption)) (by first | assumption | exact Blk.back (by first | assumption | exact Ext.drew' (by assumption) | exact Ext.undrew (by assumption)) (by first | assumption | exact Blk.back (by first | assumption | exact Ext.drew' (by assumption) | exact Ext.undrew (by assumption)) (by first | assumption | exact Blk.back (by first | assumption | exact Ext.drew' (by assumption) | exact Ext.undrew (by assumption)) (by first | assumption))))))))) (by first | exact at_w32 (by first | decide | omega | (simp <;> omega)) | exact at_b8 (by first | decide | omega | (simp <;> omega)) | rfl)) ?_; try (conv in (Act.put _ _ _) => simp only [Act.put, List.setIfInBounds_toArray, List.set_cons_succ, List.set_cons_zero]))
          | ((with_reducible refine g_at (d := 32) ?_); refine wpl_ixarr rfl rfl Tryd.underlying29 hi28 hs28 rfl (by first | decide | omega) ?_; try (conv in (Act.put _ _ _) => simp only [Act.put, List.setIfInBounds_toArray, List.set_cons_succ, List.set_cons_zero]))
          | ((with_reducible refine g_at (d := 33) ?_); refine wpl_load1 rfl Tryd.underlying28 rfl (Blk.at_ (by first | assumption | exact Blk.back (by first | assumption | exact Ext.drew' (by assumption) | exact Ext.undrew (by assumption)) (by first | assumption | exact Blk.back (by first | assumption | exact Ext.drew' (by assumption) | exact Ext.undrew (by assumption)) (by first | assumption | exact Blk.back (by first | assumption | exact Ext.drew' (by assumption) | exact Ext.undrew (by assumption)) (by first | assumption | exact Blk.back (by first | assumption | exact Ext.drew' (by assumption) | exact Ext.undrew (by assumption)) (by first | assumption | exact Blk.back (by first | assumption | exact Ext.drew' (by assumption) | exact Ext.undrew (by assumption)) (by first | assumption | exact Blk.back (by first | assumption | exact Ext.drew' (by assumption) | exact Ext.undrew (by assumption)) (by first | assumption | exact Blk.back (by first | assumption | exact Ext.drew' (by assumption) | exact Ext.undrew (by assumption)) (by first | assumption | exact Blk.back (by first | assumption | exact Ext.drew' (by assumption) | exact Ext.undrew (by assumption)) (by first | assumption))))))))) (by first | exact at_w32 (by first | decide | omega | (simp <;> omega)) | exact at_b8 (by first | decide | omega | (simp <;> omega)) | rfl)) ?_; try (conv in (Act.put _ _ _) => simp only [Act.put, List.setIfInBounds_toArray, List.set_cons_succ, List.set_cons_zero]))
          | ((with_reducible refine g_at (d := 35) ?_); refine wpl_ixarr rfl rfl Tryd.underlying29 hi28 hs28 rfl (by first | decide | omega) ?_; try (conv in (Act.put _ _ _) => simp only [Act.put, List.setIfInBounds_toArray, List.set_cons_succ, List.set_cons_zero]))
          | ((with_reducible refine g_at (d := 22) ?_); refine wpl_bin rfl rfl (by exact Go.Ch.run_add32 _ _ _ _ _ _) ?_; try (conv in (Act.put _ _ _) => simp only [Act.put, List.setIfInBounds_toArray, List.set_cons_succ, List.set_cons_zero]))
          | ((with_reducible refine g_at (d := 34) ?_); refine wpl_bin rfl rfl (by exact Go.Ch.run_add32 _ _ _ _ _ _) ?_; try (conv in (Act.put _ _ _) => simp only [Act.put, List.setIfInBounds_toArray, List.set_cons_succ, List.set_cons_zero])))
        go_roundw
        case rel =>
          refine ⟨k + 1, by omega, by go_num, hBq.grown hgs6 (by simp; omega), hBs6, hB2q.grown hgs6 (by simp; omega), hB4q.grown hgs6 (by simp; omega), hxq.trans (grown_below hgs6 (by have := hx14.size; omega) hxq.size)⟩
        case measure => simp [intOf]; omega
      · obtain rfl : k = 64 := by omega
        generalize hV : roundsN consts (sched bl) v 64 = V at hBv
        have HV := Lib.hid hV
        clear hV
        go_wp2_with fail
        go_loopw [25] (fun i wr => ∃ k : Nat, k ≤ 8 ∧ i = .int .i64 k ∧ Blk wr b6 29 ((addW V v k).map w32).toArray ∧
          Blk wr b2 29 (v.list.map w32).toArray ∧ Blk wr b4 29 ((zeros 8).map w32).toArray ∧ Ext w wr) (fun i _ => 8 - (intOf i).toNat)
        case atStart => exact ⟨0, by omega, rfl, by rw [addW_zero]; exact hBv, hB2r, hB4r, hx⟩
        case round =>
          obtain ⟨k, hk, rfl, hBv, hB2r, hB4r, hx⟩ := hrel
          by_cases hlt : k < 8
          · have hd8 : decide ((k : Int) < 8) = true := by simp; omega
            go_wp2_with fail
            have hlen := length_addW V v k
            refine wp_region_rel 7 38 Ext (by kernel_rfl) (by kernel_rfl) (by kernel_rfl) rfl rfl (fun _ => Below.refl _ _) (fun _ _ _ => Ext.tr) ?_
            refine r_move _ rfl (stays_eq _) ?_
            refine r_ixarr Tryd.underlying29 hi28 hs28 rfl rfl rfl (by first | decide | omega) ?_
            refine r_load1 Tryd.underlying28 rfl rfl hBv (at_w32 (by omega)) ?_
            refine r_move _ rfl (stays_eq _) ?_
            refine r_ixarr Tryd.underlying29 hi28 hs28 rfl rfl rfl (by first | decide | omega) ?_
            refine r_load1 Tryd.underlying28 rfl rfl hB2r (at_w32 (by rw [len8]; omega)) ?_
            refine r_bin rfl rfl (by intro w; exact Go.Ch.run_add32 _ _ _ _ _ _) ?_
            intro wR10 hxR10; have gxR10 := hxR10.undrew
            refine Fin_eq ?_
            refine Fin_eq ?_
            refine Fin_eq ?_
            refine Fin_eq ?_
            refine Fin_eq ?_
            refine Fin_eq ?_
            refine Fin_eq ?_
            show wpList _ _ _ _ _ _
            simp only [Act.put, List.setIfInBounds_toArray, List.set_cons_succ, List.set_cons_zero, Array.getD_eq_getD_getElem?, List.getElem?_toArray, List.getElem?_cons_succ, List.getElem?_cons_zero, Option.getD_some]
            simp only [List.toList_toArray, List.drop_succ_cons, List.drop_zero]
            have hBu := hBv.ext gxR10
            have hB2q := hB2r.ext gxR10
            have hB4q := hB4r.ext gxR10
            have hxq : Ext w wR10 := hx.tr gxR10
            go_wp2_with (first
              | ((with_reducible refine g_storeat (n := 35) ?_); refine wpl_store1 rfl rfl hi28 hs28 rfl rfl hBu (by simp [hlen]; omega) ?_; intro ws35 hBs35 hgs35 hzs35; (try simp only [Act.eval, Array.getD_eq_getD_getElem?, List.getElem?_toArray, List.getElem?_cons_succ, List.getElem?_cons_zero, Option.getD_some] at hBs35); (try simp only [← List.getD_eq_getElem?_getD] at hBs35); try (conv in (Act.put _ _ _) => simp only [Act.put, List.setIfInBounds_toArray, List.set_cons_succ, List.set_cons_zero]))
              | ((with_reducible refine g_at (d := 17) ?_); refine wpl_ixarr rfl rfl Tryd.underlying62 hi28 hs28 rfl (by first | decide | omega) ?_; try (conv in (Act.put _ _ _) => simp only [Act.put, List.setIfInBounds_toArray, List.set_cons_succ, List.set_cons_zero]))
              | ((with_reducible refine g_at (d := 18) ?_); refine wpl_load1 rfl Tryd.underlying28 rfl (Blk.at_ (by first | assumption | exact Blk.back (by first | assumption | exact Ext.drew' (by assumption) | exact Ext.undrew (by assumption)) (by first | assumption | exact Blk.back (by first | assumption | exact Ext.drew' (by assumption) | exact Ext.undrew (by assumption)) (by first | assumption | exact Blk.back (by first | assumption | exact Ext.drew' (by assumption) | exact Ext.undrew (by assumption)) (by first | assumption | exact Blk.back (by first | assumption | exact Ext.drew' (by assumption) | exact Ext.undrew (by assumption)) (by first | assumption | exact Blk.back (by first | assumption | exact Ext.drew' (by assumption) | exact Ext.undrew (by assumption)) (by first | assumption | exact Blk.back (by first | assumption | exact Ext.drew' (by assumption) | exact Ext.undrew (by assumption)) (by first | assumption | exact Blk.back (by first | assumption | exact Ext.drew' (by assumption) | exact Ext.undrew (by assumption)) (by first | assumption | exact Blk.back (by first | assumption | exact Ext.drew' (by assumption) | exact Ext.undrew (by assumption)) (by first | assumption))))))))) (by first | exact at_w32 (by first | decide | omega | (simp <;> omega)) | exact at_b8 (by first | decide | omega | (simp <;> omega)) | rfl)) ?_; try (conv in (Act.put _ _ _) => simp only [Act.put, List.setIfInBounds_toArray, List.set_cons_succ, List.set_cons_zero]))
              | ((with_reducible refine g_at (d := 20) ?_); refine wpl_ixarr rfl rfl Tryd.underlying62 hi28 hs28 rfl (by first | decide | omega) ?_; try (conv in (Act.put _ _ _) => simp only [Act.put, List.setIfInBounds_toArray, List.set_cons_succ, List.set_cons_zero]))
              | ((with_reducible refine g_at (d := 21) ?_); refine wpl_load1 rfl Tryd.underlying28 rfl (Blk.at_ (by first | assumption | exact Blk.back (by first | assumption | exact Ext.drew' (by assumption) | exact Ext.undrew (by assumption)) (by first | assumption | exact Blk.back (by first | assumption | exact Ext.drew' (by assumption) | exact Ext.undrew (by assumption)) (by first | assumption | exact Blk.back (by first | assumption | exact Ext.drew' (by assumption) | exact Ext.undrew (by assumption)) (by first | assumption | exact Blk.back (by first | assumption | exact Ext.drew' (by assumption) | exact Ext.undrew (by assumption)) (by first | assumption | exact Blk.back (by first | assumption | exact Ext.drew' (by assumption) | exact Ext.undrew (by assumption)) (by first | assumption | exact Blk.back (by first | assumption | exact Ext.drew' (by assumption) | exact Ext.undrew (by assumption)) (by first | assumption | exact Blk.back (by first | assumption | exact Ext.drew' (by assumption) | exact Ext.undrew (by assumption)) (by first | assumption | exact Blk.back (by first | assumption | exact Ext.drew' (by assumption) | exact Ext.undrew (by assumption)) (by first | assumption))))))))) (by first | exact at_w32 (by first | decide | omega | (simp <;> omega)) | exact at_b8 (by first | decide | omega | (simp <;> omega)) | rfl)) ?_; try (conv in (Act.put _ _ _) => simp only [Act.put, List.setIfInBounds_toArray, List.set_cons_succ, List.set_cons_zero]))
              | ((with_reducible refine g_at (d := 29) ?_); refine wpl_ixarr rfl rfl Tryd.underlying29 hi28 hs28 rfl (by first | decide | omega) ?_; try (conv in (Act.put _ _ _) => simp only [Act.put, List.setIfInBounds_toArray, List.set_cons_succ, List.set_cons_zero]))
              | ((with_reducible refine g_at (d := 30) ?_); refine wpl_load1 rfl Tryd.underlying28 rfl (Blk.at_ (by first | assumption | exact Blk.back (by first | assumption | exact Ext.drew' (by assumption) | exact Ext.undrew (by assumption)) (by first | assumption | exact Blk.back (by first | assumption | exact Ext.drew' (by assumption) | exact Ext.undrew (by assumption)) (by first | assumption | exact Blk.back (by first | assumption | exact Ext.drew' (by assumption) | exact Ext.undrew (by assumption)) (by first | assumption | exact Blk.back (by first | assumption | exact Ext.drew' (by assumption) | exact Ext.undrew (by assumption)) (by first | assumption | exact Blk.back (by first | assumption | exact Ext.drew' (by assumption) | exact Ext.undrew (by assumption)) (by first | assumption | exact Blk.back (by first | assumption | exact Ext.drew' (by assumption) | exact Ext.undrew (by assumption)) (by first | assumption | exact Blk.back (by first | assumption | exact Ext.drew' (by assumption) | exact Ext.undrew (by assumption)) (by first | assumption | exact Blk.back (by first | assumption | exact Ext.drew' (by assumption) | exact Ext.undrew (by assumption)) (by first | assumption))))))))) (by first | exact at_w32 (by first | decide | omega | (simp <;> omega)) | exact at_b8 (by first | decide | omega | (simp <;> omega)) | rfl)) ?_; try (conv in (Act.put _ _ _) => simp only [Act.put, List.setIfInBounds_toArray, List.set_cons_succ, List.set_cons_zero]))
              | ((with_reducible refine g_at (d := 32) ?_); refine wpl_ixarr rfl rfl Tryd.underlying29 hi28 hs28 rfl (by first | decide | omega) ?_; try (conv in (Act.put _ _ _) => simp only [Act.put, List.setIfInBounds_toArray, List.set_cons_succ, List.set_cons_zero]))
              | ((with_reducible refine g_at (d := 33) ?_); refine wpl_load1 rfl Tryd.underlying28 rfl (Blk.at_ (by first | assumption | exact Blk.back (by first | assumption | exact Ext.drew' (by assumption) | exact Ext.undrew (by assumption)) (by first | assumption | exact Blk.back (by first | assumption | exact Ext.drew' (by assumption) | exact Ext.undrew (by assumption)) (by first | assumption | exact Blk.back (by first | assumption | exact Ext.drew' (by assumption) | exact Ext.undrew (by assumption)) (by first | assumption | exact Blk.back (by first | assumption | exact Ext.drew' (by assumption) | exact Ext.undrew (by assumption)) (by first | assumption | exact Blk.back (by first | assumption | exact Ext.drew' (by assumption) | exact Ext.undrew (by assumption)) (by first | assumption | exact Blk.back (by first | assumption | exact Ext.drew' (by assumption) | exact Ext.undrew (by assumption)) (by first | assumption | exact Blk.back (by first | assumption | exact Ext.drew' (by assumption) | exact Ext.undrew (by assumption)) (by first | assumption | exact Blk.back (by first | assumption | exact Ext.drew' (by assumption) | exact Ext.undrew (by assumption)) (by first | assumption))))))))) (by first | exact at_w32 (by first | decide | omega | (simp <;> omega)) | exact at_b8 (by first | decide | omega | (simp <;> omega)) | rfl)) ?_; try (conv in (Act.put _ _ _) => simp only [Act.put, List.setIfInBounds_toArray, List.set_cons_succ, List.set_cons_zero]))
              | ((with_reducible refine g_at (d := 35) ?_); refine wpl_ixarr rfl rfl Tryd.underlying29 hi28 hs28 rfl (by first | decide | omega) ?_; try (conv in (Act.put _ _ _) => simp only [Act.put, List.setIfInBounds_toArray, List.set_cons_succ, List.set_cons_zero]))
              | ((with_reducible refine g_at (d := 22) ?_); refine wpl_bin rfl rfl (by exact Go.Ch.run_add32 _ _ _ _ _ _) ?_; try (conv in (Act.put _ _ _) => simp only [Act.put, List.setIfInBounds_toArray, List.set_cons_succ, List.set_cons_zero]))
              | ((with_reducible refine g_at (d := 34) ?_); refine wpl_bin rfl rfl (by exact Go.Ch.run_add32 _ _ _ _ _ _) ?_; try (conv in (Act.put _ _ _) => simp only [Act.put, List.setIfInBounds_toArray, List.set_cons_succ, List.set_cons_zero])))
            go_roundw
            case rel =>
              rw [set_w32, addW_step _ _ _ hlt] at hBs35
              exact ⟨k + 1, by omega, by go_num, hBs35, hB2q.grown hgs35 (by simp; omega), hB4q.grown hgs35 (by simp; omega), hxq.trans (grown_below hgs35 (by have := hx14.size; omega) hxq.size)⟩
            case measure => simp [intOf]; omega
          · obtain rfl : k = 8 := by omega
            rw [addW_all] at hBv
            go_wp2_with (first
              | ((with_reducible refine g_at (d := 37) ?_); refine wpl_loadrow (cs := ((addWords V v).list.map w32).toArray) (t' := 29) rfl hBv Tryd.underlying29 rfl (by simp [hsz29, len8]) ?_; try (conv in (Act.put _ _ _) => simp only [Act.put, List.setIfInBounds_toArray, List.set_cons_succ, List.set_cons_zero]))
              | ((with_reducible refine g_storeat (n := 4) ?_); refine wpl_storerow rfl rfl hi29 (by simp [hs29, len8]) (words_one _) hB4r (by simp [zeros, len8]) ?_; intro ws4 hBs4 hgs4 hzs4; try (conv in (Act.put _ _ _) => simp only [Act.put, List.setIfInBounds_toArray, List.set_cons_succ, List.set_cons_zero]))
              | ((with_reducible refine g_at (d := 17) ?_); refine wpl_ixarr rfl rfl Tryd.underlying62 hi28 hs28 rfl (by first | decide | omega) ?_; try (conv in (Act.put _ _ _) => simp only [Act.put, List.setIfInBounds_toArray, List.set_cons_succ, List.set_cons_zero]))
              | ((with_reducible refine g_at (d := 18) ?_); refine wpl_load1 rfl Tryd.underlying28 rfl (Blk.at_ (by first | assumption | exact Blk.back (by first | assumption | exact Ext.drew' (by assumption) | exact Ext.undrew (by assumption)) (by first | assumption | exact Blk.back (by first | assumption | exact Ext.drew' (by assumption) | exact Ext.undrew (by assumption)) (by first | assumption | exact Blk.back (by first | assumption | exact Ext.drew' (by assumption) | exact Ext.undrew (by assumption)) (by first | assumption | exact Blk.back (by first | assumption | exact Ext.drew' (by assumption) | exact Ext.undrew (by assumption)) (by first | assumption | exact Blk.back (by first | assumption | exact Ext.drew' (by assumption) | exact Ext.undrew (by assumption)) (by first | assumption | exact Blk.back (by first | assumption | exact Ext.drew' (by assumption) | exact Ext.undrew (by assumption)) (by first | assumption | exact Blk.back (by first | assumption | exact Ext.drew' (by assumption) | exact Ext.undrew (by assumption)) (by first | assumption | exact Blk.back (by first | assumption | exact Ext.drew' (by assumption) | exact Ext.undrew (by assumption)) (by first | assumption))))))))) (by first | exact at_w32 (by first | decide | omega | (simp <;> omega)) | exact at_b8 (by first | decide | omega | (simp <;> omega)) | rfl)) ?_; try (conv in (Act.put _ _ _) => simp only [Act.put, List.setIfInBounds_toArray, List.set_cons_succ, List.set_cons_zero]))
              | ((with_reducible refine g_at (d := 20) ?_); refine wpl_ixarr rfl rfl Tryd.underlying62 hi28 hs28 rfl (by first | decide | omega) ?_; try (conv in (Act.put _ _ _) => simp only [Act.put, List.setIfInBounds_toArray, List.set_cons_succ, List.set_cons_zero]))
              | ((with_reducible refine g_at (d := 21) ?_); refine wpl_load1 rfl Tryd.underlying28 rfl (Blk.at_ (by first | assumption | exact Blk.back (by first | assumption | exact Ext.drew' (by assumption) | exact Ext.undrew (by assumption)) (by first | assumption | exact Blk.back (by first | assumption | exact Ext.drew' (by assumption) | exact Ext.undrew (by assumption)) (by first | assumption | exact Blk.back (by first | assumption | exact Ext.drew' (by assumption) | exact Ext.undrew (by assumption)) (by first | assumption | exact Blk.back (by first | assumption | exact Ext.drew' (by assumption) | exact Ext.undrew (by assumption)) (by first | assumption | exact Blk.back (by first | assumption | exact Ext.drew' (by assumption) | exact Ext.undrew (by assumption)) (by first | assumption | exact Blk.back (by first | assumption | exact Ext.drew' (by assumption) | exact Ext.undrew (by assumption)) (by first | assumption | exact Blk.back (by first | assumption | exact Ext.drew' (by assumption) | exact Ext.undrew (by assumption)) (by first | assumption | exact Blk.back (by first | assumption | exact Ext.drew' (by assumption) | exact Ext.undrew (by assumption)) (by first | assumption))))))))) (by first | exact at_w32 (by first | decide | omega | (simp <;> omega)) | exact at_b8 (by first | decide | omega | (simp <;> omega)) | rfl)) ?_; try (conv in (Act.put _ _ _) => simp only [Act.put, List.setIfInBounds_toArray, List.set_cons_succ, List.set_cons_zero]))
              | ((with_reducible refine g_at (d := 29) ?_); refine wpl_ixarr rfl rfl Tryd.underlying29 hi28 hs28 rfl (by first | decide | omega) ?_; try (conv in (Act.put _ _ _) => simp only [Act.put, List.setIfInBounds_toArray, List.set_cons_succ, List.set_cons_zero]))
              | ((with_reducible refine g_at (d := 30) ?_); refine wpl_load1 rfl Tryd.underlying28 rfl (Blk.at_ (by first | assumption | exact Blk.back (by first | assumption | exact Ext.drew' (by assumption) | exact Ext.undrew (by assumption)) (by first | assumption | exact Blk.back (by first | assumption | exact Ext.drew' (by assumption) | exact Ext.undrew (by assumption)) (by first | assumption | exact Blk.back (by first | assumption | exact Ext.drew' (by assumption) | exact Ext.undrew (by assumption)) (by first | assumption | exact Blk.back (by first | assumption | exact Ext.drew' (by assumption) | exact Ext.undrew (by assumption)) (by first | assumption | exact Blk.back (by first | assumption | exact Ext.drew' (by assumption) | exact Ext.undrew (by assumption)) (by first | assumption | exact Blk.back (by first | assumption | exact Ext.drew' (by assumption) | exact Ext.undrew (by assumption)) (by first | assumption | exact Blk.back (by first | assumption | exact Ext.drew' (by assumption) | exact Ext.undrew (by assumption)) (by first | assumption | exact Blk.back (by first | assumption | exact Ext.drew' (by assumption) | exact Ext.undrew (by assumption)) (by first | assumption))))))))) (by first | exact at_w32 (by first | decide | omega | (simp <;> omega)) | exact at_b8 (by first | decide | omega | (simp <;> omega)) | rfl)) ?_; try (conv in (Act.put _ _ _) => simp only [Act.put, List.setIfInBounds_toArray, List.set_cons_succ, List.set_cons_zero]))
              | ((with_reducible refine g_at (d := 32) ?_); refine wpl_ixarr rfl rfl Tryd.underlying29 hi28 hs28 rfl (by first | decide | omega) ?_; try (conv in (Act.put _ _ _) => simp only [Act.put, List.setIfInBounds_toArray, List.set_cons_succ, List.set_cons_zero]))
              | ((with_reducible refine g_at (d := 33) ?_); refine wpl_load1 rfl Tryd.underlying28 rfl (Blk.at_ (by first | assumption | exact Blk.back (by first | assumption | exact Ext.drew' (by assumption) | exact Ext.undrew (by assumption)) (by first | assumption | exact Blk.back (by first | assumption | exact Ext.drew' (by assumption) | exact Ext.undrew (by assumption)) (by first | assumption | exact Blk.back (by first | assumption | exact Ext.drew' (by assumption) | exact Ext.undrew (by assumption)) (by first | assumption | exact Blk.back (by first | assumption | exact Ext.drew' (by assumption) | exact Ext.undrew (by assumption)) (by first | assumption | exact Blk.back (by first | assumption | exact Ext.drew' (by assumption) | exact Ext.undrew (by assumption)) (by first | assumption | exact Blk.back (by first | assumption | exact Ext.drew' (by assumption) | exact Ext.undrew (by assumption)) (by first | assumption | exact Blk.back (by first | assumption | exact Ext.drew' (by assumption) | exact Ext.undrew (by assumption)) (by first | assumption | exact Blk.back (by first | assumption | exact Ext.drew' (by assumption) | exact Ext.undrew (by assumption)) (by first | assumption))))))))) (by first | exact at_w32 (by first | decide | omega | (simp <;> omega)) | exact at_b8 (by first | decide | omega | (simp <;> omega)) | rfl)) ?_; try (conv in (Act.put _ _ _) => simp only [Act.put, List.setIfInBounds_toArray, List.set_cons_succ, List.set_cons_zero]))
              | ((with_reducible refine g_at (d := 35) ?_); refine wpl_ixarr rfl rfl Tryd.underlying29 hi28 hs28 rfl (by first | decide | omega) ?_; try (conv in (Act.put _ _ _) => simp only [Act.put, List.setIfInBounds_toArray, List.set_cons_succ, List.set_cons_zero]))
              | ((with_reducible refine g_at (d := 22) ?_); refine wpl_bin rfl rfl (by exact Go.Ch.run_add32 _ _ _ _ _ _) ?_; try (conv in (Act.put _ _ _) => simp only [Act.put, List.setIfInBounds_toArray, List.set_cons_succ, List.set_cons_zero]))
              | ((with_reducible refine g_at (d := 34) ?_); refine wpl_bin rfl rfl (by exact Go.Ch.run_add32 _ _ _ _ _ _) ?_; try (conv in (Act.put _ _ _) => simp only [Act.put, List.setIfInBounds_toArray, List.set_cons_succ, List.set_cons_zero])))
            exact bodyPost_ret (results_cell_row rfl _ _ _ _ _ _ _ rfl hBs4 Tryd.underlying29 rfl (by simp [hsz29, len8])) rfl ⟨_, rfl, hx.trans (grown_below hgs4 hb4' hx.size), by rw [← HV.out]; rfl⟩
end Go.Proofs.YtamddohbpdbdmaaDoor
end
section
set_option linter.unusedVariables false
set_option linter.unusedSimpArgs false
namespace Go.Proofs.YtamddohbpdbdmaaDoor
open Go.RowKit Go.Ch

theorem run_shri {P : Program} (t : TypeId) (ex ey : Operand) (k : IntKind) (m i : Nat) (hi : i < 64) (w : World) : binRun P .shr t ex ey (.int .i64 (m : Int)) (.int k (i : Int)) w = .ok (.int .i64 ((m / 2 ^ i : Nat) : Int)) w := by
  simp only [binRun, Sem.run_bind, guard_int, Result.andThen_ok]
  have h1 : min i 64 = i := by omega
  simp only [binOp, Op.shift, if_neg (show ¬ ((i : Int) < 0) by omega), Sem.run_pure, Int.toNat_natCast, show IntKind.i64.bits = 64 from rfl, h1]
  congr 2
  have e : ((2 : Int) ^ i) = ((2 ^ i : Nat) : Int) := by simp
  rw [e, Int.fdiv_eq_ediv_of_nonneg _ (Int.natCast_nonneg _)]
  rfl

/-- the tail, as it is built -/
def tl (j : Nat) : List UInt8 := [128] ++ List.replicate j 0
theorem length_tl (j : Nat) : (tl j).length = j + 1 := by simp [tl]
theorem tl_succ (j : Nat) : tl j ++ [0] = tl (j + 1) := by simp [tl, List.replicate_succ']
theorem length_lenB (n : Nat) : (lenB n).length = 8 := by simp [lenB]
theorem lenB_get (n k : Nat) (h : k < 8) : (lenB n)[k]? = some (UInt8.ofNat (8 * n / 2 ^ (56 - 8 * k))) := by
  unfold lenB
  rw [List.getElem?_map, List.getElem?_range h]; rfl
theorem tail_succ (z n k : Nat) (h : k < 8) : tl z ++ (lenB n).take k ++ [UInt8.ofNat (8 * n / 2 ^ (56 - 8 * k))] = tl z ++ (lenB n).take (k + 1) := by
  have hl : k < (lenB n).length := by rw [length_lenB]; exact h
  rw [List.append_assoc, List.take_succ_eq_append_getElem hl]
  have := lenB_get n k h
  rw [List.getElem?_eq_getElem hl] at this
  injection this with this
  rw [this]
theorem tail_done (n : Nat) : tl ((119 - n % 64) % 64) ++ (lenB n).take 8 = tailOf n := by
  rw [List.take_of_length_le (by rw [length_lenB]; omega)]; rfl

set_option maxRecDepth 100000 in
set_option maxHeartbeats 4000000 in
theorem tail_c (w : World) (n : Nat) (h : n ≤ 281474976710656) :
    Calls Tryd.prog 27 #[.int .i64 n] w (Ret fun v' w' => Ext w w' ∧ ∃ v1, v' = .tuple #[v1, .nilIface] ∧ Own w' w.heap.size 5 v1 ((tailOf n).map bU)) := by
  obtain ⟨i5, hi5, hz5, hs5, hb5⟩ := info_parts infoU8
  have hsz5 := info_size infoU8
  have h1 : ¬ (n : Int) < 0 := by omega
  have h2 : ¬ (n : Int) > 281474976710656 := by omega
  generalize hz : (119 - n % 64) % 64 = z
  go_enter Tryd.func27, Tryd.ntmps27
  go_wp2_with (first
    | ((with_reducible refine g_at (d := 13) ?_); refine wpl_buildSlice (vs := [bU 128]) Tryd.underlying22 hi5 hz5 hs5 rfl (xs := [(.const (.int .u8 128))]) rfl rfl rfl (by intro u hu; simp at hu; subst hu; rfl) (by omega) ?_; intro v13 w13 h13 hx13 ha13; try (conv in (Act.put _ _ _) => simp only [Act.put, List.setIfInBounds_toArray, List.set_cons_succ, List.set_cons_zero]))
    | ((with_reducible refine g_at (d := 16) ?_); refine wpl_len rfl Tryd.underlying22 (by first | assumption | exact Own.sl (by assumption) | exact Sl.back (by first | assumption | exact Ext.drew' (by assumption) | exact Ext.undrew (by assumption)) (by first | assumption | exact Own.sl (by assumption) | exact Sl.back (by first | assumption | exact Ext.drew' (by assumption) | exact Ext.undrew (by assumption)) (by first | assumption | exact Own.sl (by assumption) | exact Sl.back (by first | assumption | exact Ext.drew' (by assumption) | exact Ext.undrew (by assumption)) (by first | assumption | exact Own.sl (by assumption) | exact Sl.back (by first | assumption | exact Ext.drew' (by assumption) | exact Ext.undrew (by assumption)) (by first | assumption | exact Own.sl (by assumption) | exact Sl.back (by first | assumption | exact Ext.drew' (by assumption) | exact Ext.undrew (by assumption)) (by first | assumption | exact Own.sl (by assumption) | exact Sl.back (by first | assumption | exact Ext.drew' (by assumption) | exact Ext.undrew (by assumption)) (by first | assumption | exact Own.sl (by assumption) | exact Sl.back (by first | assumption | exact Ext.drew' (by assumption) | exact Ext.undrew (by assumption)) (by first | assumption | exact Own.sl (by assumption))))))))) (by first | rw [List.length_map] | rfl) ?_; try (conv in (Act.put _ _ _) => simp only [Act.put, List.setIfInBounds_toArray, List.set_cons_succ, List.set_cons_zero]))
    | ((with_reducible refine g_at (d := 22) ?_); refine wpl_buildSlice (vs := [bU 0]) Tryd.underlying22 hi5 hz5 hs5 rfl (xs := [(.const (.int .u8 0))]) rfl rfl rfl (by intro u hu; simp at hu; subst hu; rfl) (by omega) ?_; intro v22 w22 h22 hx22 ha22; try (conv in (Act.put _ _ _) => simp only [Act.put, List.setIfInBounds_toArray, List.set_cons_succ, List.set_cons_zero])))
  go_loopw [4] (fun o wr => ∃ j : Nat, j ≤ z ∧ Own wr w.heap.size 5 o ((tl j).map bU) ∧ Ext w wr) (fun o _ => 100 - slen o)
  case atStart => exact ⟨0, by omega, h13, hx13⟩
  case round =>
    obtain ⟨j, hj, ho, hx⟩ := hrel
    have hlen := length_tl j
    have hsl : slen u4 = j + 1 := by rw [ho.slen]; simp [hlen]
    by_cases hlt : j < z
    · have ht : ¬ ((n : Int) + (j + 1) + 8) % 64 = 0 := by omega
      go_wp2_with (first
        | ((with_reducible refine g_at (d := 16) ?_); refine wpl_len rfl Tryd.underlying22 ho.sl (by first | rw [List.length_map] | rfl) ?_; try (conv in (Act.put _ _ _) => simp only [Act.put, List.setIfInBounds_toArray, List.set_cons_succ, List.set_cons_zero]))
        | ((with_reducible refine g_at (d := 22) ?_); refine wpl_buildSlice (vs := [bU 0]) Tryd.underlying22 hi5 hz5 hs5 rfl (xs := [(.const (.int .u8 0))]) rfl rfl rfl (by intro u hu; simp at hu; subst hu; rfl) (by omega) ?_; intro v22 w22 h22 hx22 ha22; try (conv in (Act.put _ _ _) => simp only [Act.put, List.setIfInBounds_toArray, List.set_cons_succ, List.set_cons_zero]))
        | ((with_reducible refine g_at (d := 23) ?_); refine wpl_append (v := u4) rfl rfl Tryd.underlying22 hi5 hz5 hs5 hb5 rfl (ho.ext hx22) h22.sl (bU_one [0]) (by first | omega | (simp <;> omega)) (by omega) (Nat.le_trans hx.size hx22.size) ?_; intro v23 w23 h23 hg23 ha23 hx23; try (conv in (Act.put _ _ _) => simp only [Act.put, List.setIfInBounds_toArray, List.set_cons_succ, List.set_cons_zero]))
        | ((with_reducible refine g_at (d := 13) ?_); refine wpl_buildSlice (vs := [bU 128]) Tryd.underlying22 hi5 hz5 hs5 rfl (xs := [(.const (.int .u8 128))]) rfl rfl rfl (by intro u hu; simp at hu; subst hu; rfl) (by omega) ?_; intro v13 w13 h13 hx13 ha13; try (conv in (Act.put _ _ _) => simp only [Act.put, List.setIfInBounds_toArray, List.set_cons_succ, List.set_cons_zero])))
      go_roundw
      case rel =>
        refine ⟨j + 1, by omega, ?_, (hx.tr hx22).trans hx23⟩
        rw [← tl_succ, List.map_append]; exact h23
      case measure => rw [h23.slen, hsl]; simp [hlen]; omega
    · obtain rfl : j = z := by omega
      have ht : ((n : Int) + (j + 1) + 8) % 64 = 0 := by omega
      go_wp2_with (first
        | ((with_reducible refine g_at (d := 16) ?_); refine wpl_len rfl Tryd.underlying22 ho.sl (by first | rw [List.length_map] | rfl) ?_; try (conv in (Act.put _ _ _) => simp only [Act.put, List.setIfInBounds_toArray, List.set_cons_succ, List.set_cons_zero]))
        | ((with_reducible refine g_at (d := 13) ?_); refine wpl_buildSlice (vs := [bU 128]) Tryd.underlying22 hi5 hz5 hs5 rfl (xs := [(.const (.int .u8 128))]) rfl rfl rfl (by intro u hu; simp at hu; subst hu; rfl) (by omega) ?_; intro v13 w13 h13 hx13 ha13; try (conv in (Act.put _ _ _) => simp only [Act.put, List.setIfInBounds_toArray, List.set_cons_succ, List.set_cons_zero]))
        | ((with_reducible refine g_at (d := 22) ?_); refine wpl_buildSlice (vs := [bU 0]) Tryd.underlying22 hi5 hz5 hs5 rfl (xs := [(.const (.int .u8 0))]) rfl rfl rfl (by intro u hu; simp at hu; subst hu; rfl) (by omega) ?_; intro v22 w22 h22 hx22 ha22; try (conv in (Act.put _ _ _) => simp only [Act.put, List.setIfInBounds_toArray, List.set_cons_succ, List.set_cons_zero])))
      go_loopw [5, 4] (fun i o wr => ∃ k : Nat, k ≤ 8 ∧ i = .int .i64 (56 - 8 * (k : Int)) ∧ Own wr w.heap.size 5 o ((tl j ++ (lenB n).take k).map bU) ∧ Ext w wr) (fun i _ _ => (intOf i + 8).toNat)
      case atStart => exact ⟨0, by omega, rfl, by simpa using ho, hx⟩
      case round =>
        obtain ⟨k, hk, rfl, ho, hx⟩ := hrel
        have hlen2 : ((lenB n).take k).length = k := by rw [List.length_take, length_lenB]; omega
        by_cases hlt : k < 8
        · go_wp2_with (first
            | ((with_reducible refine g_at (d := 32) ?_); refine wpl_bin rfl rfl (by rw [show (8 * (n : Int)) = ((8 * n : Nat) : Int) by omega, show (56 - 8 * (k : Int)) = ((56 - 8 * k : Nat) : Int) by omega]; exact run_shri _ _ _ _ (8 * n) (56 - 8 * k) (by omega) _) ?_; try (conv in (Act.put _ _ _) => simp only [Act.put, List.setIfInBounds_toArray, List.set_cons_succ, List.set_cons_zero]))
            | ((with_reducible refine g_at (d := 33) ?_); refine wpl_conv rfl (by exact conv_nb Tryd.underlying3 Tryd.underlying5 _ _) ?_; try (conv in (Act.put _ _ _) => simp only [Act.put, List.setIfInBounds_toArray, List.set_cons_succ, List.set_cons_zero]))
            | ((with_reducible refine g_at (d := 34) ?_); refine wpl_buildSlice (vs := [bU (UInt8.ofNat (8 * n / 2 ^ (56 - 8 * k)))]) Tryd.underlying22 hi5 hz5 hs5 rfl (xs := [(.tmp 33)]) rfl rfl rfl (by intro u hu; simp at hu; subst hu; rfl) (by omega) ?_; intro v34 w34 h34 hx34 ha34; try (conv in (Act.put _ _ _) => simp only [Act.put, List.setIfInBounds_toArray, List.set_cons_succ, List.set_cons_zero]))
            | ((with_reducible refine g_at (d := 35) ?_); refine wpl_append (v := u4) rfl rfl Tryd.underlying22 hi5 hz5 hs5 hb5 rfl (ho.ext hx34) h34.sl (bU_one [UInt8.ofNat (8 * n / 2 ^ (56 - 8 * k))]) (by first | omega | (simp <;> omega)) (by omega) (Nat.le_trans hx.size hx34.size) ?_; intro v35 w35 h35 hg35 ha35 hx35; try (conv in (Act.put _ _ _) => simp only [Act.put, List.setIfInBounds_toArray, List.set_cons_succ, List.set_cons_zero]))
            | ((with_reducible refine g_at (d := 13) ?_); refine wpl_buildSlice (vs := [bU 128]) Tryd.underlying22 hi5 hz5 hs5 rfl (xs := [(.const (.int .u8 128))]) rfl rfl rfl (by intro u hu; simp at hu; subst hu; rfl) (by omega) ?_; intro v13 w13 h13 hx13 ha13; try (conv in (Act.put _ _ _) => simp only [Act.put, List.setIfInBounds_toArray, List.set_cons_succ, List.set_cons_zero]))
            | ((with_reducible refine g_at (d := 16) ?_); refine wpl_len rfl Tryd.underlying22 (by first | assumption | exact Own.sl (by assumption) | exact Sl.back (by first | assumption | exact Ext.drew' (by assumption) | exact Ext.undrew (by assumption)) (by first | assumption | exact Own.sl (by assumption) | exact Sl.back (by first | assumption | exact Ext.drew' (by assumption) | exact Ext.undrew (by assumption)) (by first | assumption | exact Own.sl (by assumption) | exact Sl.back (by first | assumption | exact Ext.drew' (by assumption) | exact Ext.undrew (by assumption)) (by first | assumption | exact Own.sl (by assumption) | exact Sl.back (by first | assumption | exact Ext.drew' (by assumption) | exact Ext.undrew (by assumption)) (by first | assumption | exact Own.sl (by assumption) | exact Sl.back (by first | assumption | exact Ext.drew' (by assumption) | exact Ext.undrew (by assumption)) (by first | assumption | exact Own.sl (by assumption) | exact Sl.back (by first | assumption | exact Ext.drew' (by assumption) | exact Ext.undrew (by assumption)) (by first | assumption | exact Own.sl (by assumption) | exact Sl.back (by first | assumption | exact Ext.drew' (by assumption) | exact Ext.undrew (by assumption)) (by first | assumption | exact Own.sl (by assumption))))))))) (by first | rw [List.length_map] | rfl) ?_; try (conv in (Act.put _ _ _) => simp only [Act.put, List.setIfInBounds_toArray, List.set_cons_succ, List.set_cons_zero]))
            | ((with_reducible refine g_at (d := 22) ?_); refine wpl_buildSlice (vs := [bU 0]) Tryd.underlying22 hi5 hz5 hs5 rfl (xs := [(.const (.int .u8 0))]) rfl rfl rfl (by intro u hu; simp at hu; subst hu; rfl) (by omega) ?_; intro v22 w22 h22 hx22 ha22; try (conv in (Act.put _ _ _) => simp only [Act.put, List.setIfInBounds_toArray, List.set_cons_succ, List.set_cons_zero])))
          go_roundw
          case rel =>
            refine ⟨k + 1, by omega, by go_num, ?_, (hx.tr hx34).trans hx35⟩
            rw [← tail_succ _ _ _ hlt, List.map_append]; exact h35
          case measure => simp [intOf]; omega
        · obtain rfl : k = 8 := by omega
          rw [← hz, tail_done] at ho
          go_wp2
          go_ret2
          exact ⟨_, rfl, hx, _, rfl, ho⟩

end Go.Proofs.YtamddohbpdbdmaaDoor
end
section
set_option linter.unusedVariables false
set_option linter.unusedSimpArgs false
namespace Go.Proofs.YtamddohbpdbdmaaDoor
open Go.RowKit Go.Ch

theorem begin_c (w : World) :
    Calls Tryd.prog 28 #[] w (Ret fun v' w' => Ext w w' ∧ v' = wds begin8) := by
  obtain ⟨i28, hi28, hz28, hs28, hb28⟩ := info_parts infoU32
  have hsz28 := info_size infoU32
  obtain ⟨i29, hi29, hz29, hs29, hb29⟩ := info_parts infoW8
  have hsz29 := info_size infoW8
  unfold wds
  go_enter Tryd.func28, Tryd.ntmps28
  go_wp2_with (first
    | ((with_reducible refine g_at (d := 0) ?_); refine wpl_alloc hi29 hz29 (cs := ((zeros 8).map w32).toArray) rfl ?_; intro b0 w0 hB0 hb0 hx0; try (conv in (Act.put _ _ _) => simp only [Act.put, List.setIfInBounds_toArray, List.set_cons_succ, List.set_cons_zero]))
    | ((with_reducible refine g_at (d := 1) ?_); refine wpl_build_arr (vs := (begin8.list.map w32)) Tryd.underlying29 hi29 hz29 (by first | rfl | simp [zeros] | decide) hi28 hs28 (xs := [(.const (.int .u32 1779033703)), (.const (.int .u32 3144134277)), (.const (.int .u32 1013904242)), (.const (.int .u32 2773480762)), (.const (.int .u32 1359893119)), (.const (.int .u32 2600822924)), (.const (.int .u32 528734635)), (.const (.int .u32 1541459225))]) rfl rfl rfl (fun u hu => by obtain ⟨x, _, rfl⟩ := List.mem_map.1 hu; rfl) ?_; try (conv in (Act.put _ _ _) => simp only [Act.put, List.setIfInBounds_toArray, List.set_cons_succ, List.set_cons_zero]))
    | ((with_reducible refine g_storeat (n := 0) ?_); refine wpl_storerow rfl rfl hi29 (by simp [hs29, len8]) (words_one begin8) hB0 (by simp [zeros, len8]) ?_; intro ws0 hBs0 hgs0 hzs0; try (conv in (Act.put _ _ _) => simp only [Act.put, List.setIfInBounds_toArray, List.set_cons_succ, List.set_cons_zero])))
  exact bodyPost_ret (results_cell_row rfl _ _ _ _ _ _ _ rfl hBs0 Tryd.underlying29 rfl (by simp [hsz29, len8])) rfl ⟨_, rfl, hx0.trans (grown_below hgs0 hb0 hx0.size), rfl⟩

theorem all_len (n : Nat) : ∃ q, n + (tailOf n).length = 64 * q := ⟨(n + (tailOf n).length) / 64, by have := whole_tailOf n; omega⟩

set_option maxRecDepth 100000 in
set_option maxHeartbeats 8000000 in
theorem sum_c (w : World) (B : Nat) (v : Value) (l : List UInt8) (hv : Sl w B v (l.map bU)) (hl : l.length ≤ 100000) (hG : GK w) :
    Calls Tryd.prog 19 #[v] w (Ret fun v' w' => Ext w w' ∧ Own w' w.heap.size 5 v' ((digest consts begin8 l).map bU)) := by
  obtain ⟨i5, hi5, hz5, hs5, hb5⟩ := info_parts infoU8
  have hsz5 := info_size infoU8
  obtain ⟨i28, hi28, hz28, hs28, hb28⟩ := info_parts infoU32
  have hsz28 := info_size infoU32
  obtain ⟨i29, hi29, hz29, hs29, hb29⟩ := info_parts infoW8
  have hsz29 := info_size infoW8
  obtain ⟨i54, hi54, hz54, hs54, hb54⟩ := info_parts infoB64
  have hsz54 := info_size infoB64
  obtain ⟨q, hq⟩ := all_len l.length
  have hq' : q ≤ 10000 := by rw [length_tailOf] at hq; omega
  have HL8 := Lib.hid (length_tailOf l.length)
  have HQ := Lib.hid hq
  have hlt8 : (tailOf l.length).length ≤ 72 := by rw [length_tailOf]; omega
  clear hq
  go_enter Tryd.func19, Tryd.ntmps19
  go_wp2_with (first
    | ((with_reducible refine g_at (d := 13) ?_); refine wpl_len rfl Tryd.underlying22 hv (by first | rw [List.length_map] | rfl) ?_; try (conv in (Act.put _ _ _) => simp only [Act.put, List.setIfInBounds_toArray, List.set_cons_succ, List.set_cons_zero]))
    | ((with_reducible refine g_at (d := 14) ?_); refine wpl_call Tryd.func27 (by kernel_rfl) (by kernel_rfl) rfl (tail_c _ l.length (by omega)) ?_; rintro v14 w14 ⟨hx14, v1, rfl, h14⟩; try (conv in (Act.put _ _ _) => simp only [Act.put, List.setIfInBounds_toArray, List.set_cons_succ, List.set_cons_zero]))
    | ((with_reducible refine g_at (d := 19) ?_); refine wpl_buildSlice (vs := []) Tryd.underlying22 hi5 hz5 hs5 rfl (xs := []) rfl rfl rfl (by simp) (by omega) ?_; intro v19 w19 h19 hx19 ha19; try (conv in (Act.put _ _ _) => simp only [Act.put, List.setIfInBounds_toArray, List.set_cons_succ, List.set_cons_zero]))
    | ((with_reducible refine g_at (d := 21) ?_); refine wpl_append (v := v19) rfl rfl Tryd.underlying22 hi5 hz5 hs5 hb5 rfl h19 ((hv.ext hx14).ext hx19) (bU_one _) (by first | omega | (simp <;> omega)) (by omega) hx19.size ?_; intro v21 w21 h21 hg21 ha21 hx21; try (conv in (Act.put _ _ _) => simp only [Act.put, List.setIfInBounds_toArray, List.set_cons_succ, List.set_cons_zero]))
    | ((with_reducible refine g_at (d := 23) ?_); refine wpl_append (v := v21) rfl rfl Tryd.underlying22 hi5 hz5 hs5 hb5 rfl h21 ((h14.sl.ext hx19).below hx21) (bU_one _) (by first | omega | (simp <;> omega)) (by omega) (Nat.le_trans hx19.size hx21.size) ?_; intro v23 w23 h23 hg23 ha23 hx23; try (conv in (Act.put _ _ _) => simp only [Act.put, List.setIfInBounds_toArray, List.set_cons_succ, List.set_cons_zero]))
    | ((with_reducible refine g_at (d := 24) ?_); refine wpl_call Tryd.func28 (by kernel_rfl) (by kernel_rfl) rfl (begin_c _) ?_; rintro v24 w24 ⟨hx24, rfl⟩; try (conv in (Act.put _ _ _) => simp only [Act.put, List.setIfInBounds_toArray, List.set_cons_succ, List.set_cons_zero]))
    | ((with_reducible refine g_at (d := 6) ?_); refine wpl_alloc hi29 hz29 (cs := ((zeros 8).map w32).toArray) rfl ?_; intro b6 w6 hB6 hb6 hx6; try (conv in (Act.put _ _ _) => simp only [Act.put, List.setIfInBounds_toArray, List.set_cons_succ, List.set_cons_zero]))
    | ((with_reducible refine g_storeat (n := 6) ?_); refine wpl_storerow rfl rfl hi29 (by simp [hs29, len8]) (words_one begin8) hB6 (by simp [zeros, len8]) ?_; intro ws6 hBs6 hgs6 hzs6; try (conv in (Act.put _ _ _) => simp only [Act.put, List.setIfInBounds_toArray, List.set_cons_succ, List.set_cons_zero]))
    | ((with_reducible refine g_at (d := 27) ?_); refine wpl_len rfl Tryd.underlying22 (by first | assumption | exact Own.sl (by assumption) | exact Sl.back (by first | assumption | exact Ext.drew' (by assumption) | exact Ext.undrew (by assumption)) (by first | assumption | exact Own.sl (by assumption) | exact Sl.back (by first | assumption | exact Ext.drew' (by assumption) | exact Ext.undrew (by assumption)) (by first | assumption | exact Own.sl (by assumption) | exact Sl.back (by first | assumption | exact Ext.drew' (by assumption) | exact Ext.undrew (by assumption)) (by first | assumption | exact Own.sl (by assumption) | exact Sl.back (by first | assumption | exact Ext.drew' (by assumption) | exact Ext.undrew (by assumption)) (by first | assumption | exact Own.sl (by assumption) | exact Sl.back (by first | assumption | exact Ext.drew' (by assumption) | exact Ext.undrew (by assumption)) (by first | assumption | exact Own.sl (by assumption) | exact Sl.back (by first | assumption | exact Ext.drew' (by assumption) | exact Ext.undrew (by assumption)) (by first | assumption | exact Own.sl (by assumption) | exact Sl.back (by first | assumption | exact Ext.drew' (by assumption) | exact Ext.undrew (by assumption)) (by first | assumption | exact Own.sl (by assumption))))))))) (by first | rw [List.length_map] | rfl) ?_; try (conv in (Act.put _ _ _) => simp only [Act.put, List.setIfInBounds_toArray, List.set_cons_succ, List.set_cons_zero]))
    | ((with_reducible refine g_at (d := 34) ?_); refine wpl_slice_from rfl rfl Tryd.underlying22 hi5 hs5 (by first | assumption | exact Own.sl (by assumption) | exact Sl.back (by first | assumption | exact Ext.drew' (by assumption) | exact Ext.undrew (by assumption)) (by first | assumption | exact Own.sl (by assumption) | exact Sl.back (by first | assumption | exact Ext.drew' (by assumption) | exact Ext.undrew (by assumption)) (by first | assumption | exact Own.sl (by assumption) | exact Sl.back (by first | assumption | exact Ext.drew' (by assumption) | exact Ext.undrew (by assumption)) (by first | assumption | exact Own.sl (by assumption) | exact Sl.back (by first | assumption | exact Ext.drew' (by assumption) | exact Ext.undrew (by assumption)) (by first | assumption | exact Own.sl (by assumption) | exact Sl.back (by first | assumption | exact Ext.drew' (by assumption) | exact Ext.undrew (by assumption)) (by first | assumption | exact Own.sl (by assumption) | exact Sl.back (by first | assumption | exact Ext.drew' (by assumption) | exact Ext.undrew (by assumption)) (by first | assumption | exact Own.sl (by assumption) | exact Sl.back (by first | assumption | exact Ext.drew' (by assumption) | exact Ext.undrew (by assumption)) (by first | assumption | exact Own.sl (by assumption))))))))) rfl (by first | omega | (simp <;> omega)) ?_; intro v34 h34; (try simp only [← List.map_take, ← List.map_drop, List.take_zero, List.drop_zero] at h34); try (conv in (Act.put _ _ _) => simp only [Act.put, List.setIfInBounds_toArray, List.set_cons_succ, List.set_cons_zero]))
    | ((with_reducible refine g_at (d := 45) ?_); refine wpl_conv rfl (by exact conv_wb Tryd.underlying28 Tryd.underlying5 _ _) ?_; try (conv in (Act.put _ _ _) => simp only [Act.put, List.setIfInBounds_toArray, List.set_cons_succ, List.set_cons_zero]))
    | ((with_reducible refine g_at (d := 48) ?_); refine wpl_conv rfl (by exact conv_wb Tryd.underlying28 Tryd.underlying5 _ _) ?_; try (conv in (Act.put _ _ _) => simp only [Act.put, List.setIfInBounds_toArray, List.set_cons_succ, List.set_cons_zero]))
    | ((with_reducible refine g_at (d := 51) ?_); refine wpl_conv rfl (by exact conv_wb Tryd.underlying28 Tryd.underlying5 _ _) ?_; try (conv in (Act.put _ _ _) => simp only [Act.put, List.setIfInBounds_toArray, List.set_cons_succ, List.set_cons_zero]))
    | ((with_reducible refine g_at (d := 53) ?_); refine wpl_conv rfl (by exact conv_wb Tryd.underlying28 Tryd.underlying5 _ _) ?_; try (conv in (Act.put _ _ _) => simp only [Act.put, List.setIfInBounds_toArray, List.set_cons_succ, List.set_cons_zero])))
  have hAll : Own w23 w14.heap.size 5 v23 ((l ++ tailOf l.length).map bU) := by simpa using h23
  have hx23w : Ext w w23 := by
    have e1 : Ext w w19 := hx14.tr hx19
    exact (e1.trans (hx21.mono hx14.size)).trans (hx23.mono hx14.size)
  have hb6w : w.heap.size ≤ b6 := by have h1 := hx23w.size; have h2 := hx24.size; omega
  have hb6a : w23.heap.size ≤ b6 := by have h2 := hx24.size; omega
  have hxw : Ext w ws6 := by
    have e1 : Ext w w6 := (hx23w.tr hx24).tr hx6
    exact e1.trans (grown_below hgs6 hb6w e1.size)
  have hSl : Sl ws6 w23.heap.size v23 ((l ++ tailOf l.length).map bU) := ((hAll.sl.ext hx24).ext hx6).grown hgs6 (fun g hg => by injection hg with hg; omega)
  generalize hA : l ++ tailOf l.length = A at hSl
  have hA1 : A.length ≤ 64 * q := by rw [← hA, List.length_append, HQ.out]; exact Nat.le_refl _
  have hA2 : 64 * q ≤ A.length := by rw [← hA, List.length_append, HQ.out]; exact Nat.le_refl _
  have HA := Lib.hid hA
  have HG := Lib.hid hG
  clear hA hAll h14 h19 h21 h23 hg21 ha21 hx21 hg23 ha23 hx23 ha19 hx19 hx14 hx24 hB6 hx6 hgs6 hzs6 hlt8 hv hG
  unfold wds
  go_loopw [7] (fun i wr => ∃ k : Nat, k ≤ q ∧ i = .int .i64 (64 * (k : Int)) ∧ Blk wr b6 29 ((pressN consts begin8 A k).list.map w32).toArray ∧ Sl wr w23.heap.size v23 (A.map bU) ∧ Ext w wr) (fun i _ => (64 * q + 1 - intOf i).toNat)
  case atStart => exact ⟨0, by omega, rfl, hBs6, hSl, hxw⟩
  case round =>
    obtain ⟨k, hk, rfl, hBv, hSl, hx⟩ := hrel
    by_cases hlt : k < q
    · have hd : decide (64 * (k : Int) < (A.length : Int)) = true := by simp; omega
      go_wp2_with (first
        | ((with_reducible refine g_at (d := 27) ?_); refine wpl_len rfl Tryd.underlying22 hSl (by first | rw [List.length_map] | rfl) ?_; try (conv in (Act.put _ _ _) => simp only [Act.put, List.setIfInBounds_toArray, List.set_cons_succ, List.set_cons_zero]))
        | ((with_reducible refine g_at (d := 13) ?_); refine wpl_len rfl Tryd.underlying22 (by first | assumption | exact Own.sl (by assumption) | exact Sl.back (by first | assumption | exact Ext.drew' (by assumption) | exact Ext.undrew (by assumption)) (by first | assumption | exact Own.sl (by assumption) | exact Sl.back (by first | assumption | exact Ext.drew' (by assumption) | exact Ext.undrew (by assumption)) (by first | assumption | exact Own.sl (by assumption) | exact Sl.back (by first | assumption | exact Ext.drew' (by assumption) | exact Ext.undrew (by assumption)) (by first | assumption | exact Own.sl (by assumption) | exact Sl.back (by first | assumption | exact Ext.drew' (by assumption) | exact Ext.undrew (by assumption)) (by first | assumption | exact Own.sl (by assumption) | exact Sl.back (by first | assumption | exact Ext.drew' (by assumption) | exact Ext.undrew (by assumption)) (by first | assumption | exact Own.sl (by assumption) | exact Sl.back (by first | assumption | exact Ext.drew' (by assumption) | exact Ext.undrew (by assumption)) (by first | assumption | exact Own.sl (by assumption) | exact Sl.back (by first | assumption | exact Ext.drew' (by assumption) | exact Ext.undrew (by assumption)) (by first | assumption | exact Own.sl (by assumption))))))))) (by first | rw [List.length_map] | rfl) ?_; try (conv in (Act.put _ _ _) => simp only [Act.put, List.setIfInBounds_toArray, List.set_cons_succ, List.set_cons_zero]))
        | ((with_reducible refine g_at (d := 19) ?_); refine wpl_buildSlice (vs := []) Tryd.underlying22 hi5 hz5 hs5 rfl (xs := []) rfl rfl rfl (by simp) (by omega) ?_; intro v19 w19 h19 hx19 ha19; try (conv in (Act.put _ _ _) => simp only [Act.put, List.setIfInBounds_toArray, List.set_cons_succ, List.set_cons_zero]))
        | ((with_reducible refine g_at (d := 34) ?_); refine wpl_slice_from rfl rfl Tryd.underlying22 hi5 hs5 (by first | assumption | exact Own.sl (by assumption) | exact Sl.back (by first | assumption | exact Ext.drew' (by assumption) | exact Ext.undrew (by assumption)) (by first | assumption | exact Own.sl (by assumption) | exact Sl.back (by first | assumption | exact Ext.drew' (by assumption) | exact Ext.undrew (by assumption)) (by first | assumption | exact Own.sl (by assumption) | exact Sl.back (by first | assumption | exact Ext.drew' (by assumption) | exact Ext.undrew (by assumption)) (by first | assumption | exact Own.sl (by assumption) | exact Sl.back (by first | assumption | exact Ext.drew' (by assumption) | exact Ext.undrew (by assumption)) (by first | assumption | exact Own.sl (by assumption) | exact Sl.back (by first | assumption | exact Ext.drew' (by assumption) | exact Ext.undrew (by assumption)) (by first | assumption | exact Own.sl (by assumption) | exact Sl.back (by first | assumption | exact Ext.drew' (by assumption) | exact Ext.undrew (by assumption)) (by first | assumption | exact Own.sl (by assumption) | exact Sl.back (by first | assumption | exact Ext.drew' (by assumption) | exact Ext.undrew (by assumption)) (by first | assumption | exact Own.sl (by assumption))))))))) rfl (by first | omega | (simp <;> omega)) ?_; intro v34 h34; (try simp only [← List.map_take, ← List.map_drop, List.take_zero, List.drop_zero] at h34); try (conv in (Act.put _ _ _) => simp only [Act.put, List.setIfInBounds_toArray, List.set_cons_succ, List.set_cons_zero]))
        | ((with_reducible refine g_at (d := 45) ?_); refine wpl_conv rfl (by exact conv_wb Tryd.underlying28 Tryd.underlying5 _ _) ?_; try (conv in (Act.put _ _ _) => simp only [Act.put, List.setIfInBounds_toArray, List.set_cons_succ, List.set_cons_zero]))
        | ((with_reducible refine g_at (d := 48) ?_); refine wpl_conv rfl (by exact conv_wb Tryd.underlying28 Tryd.underlying5 _ _) ?_; try (conv in (Act.put _ _ _) => simp only [Act.put, List.setIfInBounds_toArray, List.set_cons_succ, List.set_cons_zero]))
        | ((with_reducible refine g_at (d := 51) ?_); refine wpl_conv rfl (by exact conv_wb Tryd.underlying28 Tryd.underlying5 _ _) ?_; try (conv in (Act.put _ _ _) => simp only [Act.put, List.setIfInBounds_toArray, List.set_cons_succ, List.set_cons_zero]))
        | ((with_reducible refine g_at (d := 53) ?_); refine wpl_conv rfl (by exact conv_wb Tryd.underlying28 Tryd.underlying5 _ _) ?_; try (conv in (Act.put _ _ _) => simp only [Act.put, List.setIfInBounds_toArray, List.set_cons_succ, List.set_cons_zero]))
        | ((with_reducible refine g_at (d := 44) ?_); refine wpl_bin rfl rfl (by exact Go.Ch.run_shr32 _ _ _ _ _ 24 (by omega) _) ?_; try (conv in (Act.put _ _ _) => simp only [Act.put, List.setIfInBounds_toArray, List.set_cons_succ, List.set_cons_zero]))
        | ((with_reducible refine g_at (d := 47) ?_); refine wpl_bin rfl rfl (by exact Go.Ch.run_shr32 _ _ _ _ _ 16 (by omega) _) ?_; try (conv in (Act.put _ _ _) => simp only [Act.put, List.setIfInBounds_toArray, List.set_cons_succ, List.set_cons_zero]))
        | ((with_reducible refine g_at (d := 50) ?_); refine wpl_bin rfl rfl (by exact Go.Ch.run_shr32 _ _ _ _ _ 8 (by omega) _) ?_; try (conv in (Act.put _ _ _) => simp only [Act.put, List.setIfInBounds_toArray, List.set_cons_succ, List.set_cons_zero])))
      refine wp_region_rel 7 58 Ext (by kernel_rfl) (by kernel_rfl) (by kernel_rfl) rfl rfl (fun _ => Below.refl _ _) (fun _ _ _ => Ext.tr) ?_
      refine r_loadrow Tryd.underlying29 rfl rfl hBv (by simp [hsz29, len8]) ?_
      refine r_move _ rfl (stays_eq _) ?_
      refine r_move _ rfl (stays_eq _) ?_
      refine r_slice_from Tryd.underlying22 hi5 hs5 (by rintro _ w hX rfl; exact Sl.extd hSl hX) rfl (show _ = ((64 * k : Nat) : Int) by first | omega | (simp <;> omega)) (by first | omega | (simp <;> omega)) ?_
      refine r_s2a Tryd.underlying54 (fun _ _ _ h => h) (by simp; omega) (by decide) (by rw [← List.map_drop, ← List.map_take]) ?_
      refine r_loadcells Tryd.underlying54 rfl (by simp [hsz54]; omega) (fun _ _ _ h => h) ?_
      refine r_callX _ Tryd.func29 (by kernel_rfl) (by kernel_rfl) rfl (fun w hX => press_c _ (pressN consts begin8 A k) ((A.drop (64 * k)).take 64) (by simp; omega) ((HG.out.ext hx).ext hX.undrew)) ?_
      intro wR9 hxR9; have gxR9 := hxR9.undrew
      refine Fin_eq ?_
      refine Fin_eq ?_
      refine Fin_eq ?_
      intro v34 h34
      intro v35 h35
      refine Fin_eq ?_
      refine Fin_eq ?_
      show wpList _ _ _ _ _ _
      simp only [Act.put, List.setIfInBounds_toArray, List.set_cons_succ, List.set_cons_zero, Array.getD_eq_getD_getElem?, List.getElem?_toArray, List.getElem?_cons_succ, List.getElem?_cons_zero, Option.getD_some]
      simp only [List.toList_toArray, List.drop_succ_cons, List.drop_zero]
      have hBu := hBv.ext gxR9
      have hSq := hSl.ext gxR9
      have hxq : Ext w wR9 := hx.tr gxR9
      unfold wds
      clear hSl
      go_wp2_with (first
        | ((with_reducible refine g_storeat (n := 6) ?_); refine wpl_storerow rfl rfl hi29 (by simp [hs29, len8]) (words_one _) hBu (by simp [len8]) ?_; intro ws6 hBs6 hgs6 hzs6; try (conv in (Act.put _ _ _) => simp only [Act.put, List.setIfInBounds_toArray, List.set_cons_succ, List.set_cons_zero]))
        | ((with_reducible refine g_at (d := 13) ?_); refine wpl_len rfl Tryd.underlying22 (by first | assumption | exact Own.sl (by assumption) | exact Sl.back (by first | assumption | exact Ext.drew' (by assumption) | exact Ext.undrew (by assumption)) (by first | assumption | exact Own.sl (by assumption) | exact Sl.back (by first | assumption | exact Ext.drew' (by assumption) | exact Ext.undrew (by assumption)) (by first | assumption | exact Own.sl (by assumption) | exact Sl.back (by first | assumption | exact Ext.drew' (by assumption) | exact Ext.undrew (by assumption)) (by first | assumption | exact Own.sl (by assumption) | exact Sl.back (by first | assumption | exact Ext.drew' (by assumption) | exact Ext.undrew (by assumption)) (by first | assumption | exact Own.sl (by assumption) | exact Sl.back (by first | assumption | exact Ext.drew' (by assumption) | exact Ext.undrew (by assumption)) (by first | assumption | exact Own.sl (by assumption) | exact Sl.back (by first | assumption | exact Ext.drew' (by assumption) | exact Ext.undrew (by assumption)) (by first | assumption | exact Own.sl (by assumption) | exact Sl.back (by first | assumption | exact Ext.drew' (by assumption) | exact Ext.undrew (by assumption)) (by first | assumption | exact Own.sl (by assumption))))))))) (by first | rw [List.length_map] | rfl) ?_; try (conv in (Act.put _ _ _) => simp only [Act.put, List.setIfInBounds_toArray, List.set_cons_succ, List.set_cons_zero]))
        | ((with_reducible refine g_at (d := 19) ?_); refine wpl_buildSlice (vs := []) Tryd.underlying22 hi5 hz5 hs5 rfl (xs := []) rfl rfl rfl (by simp) (by omega) ?_; intro v19 w19 h19 hx19 ha19; try (conv in (Act.put _ _ _) => simp only [Act.put, List.setIfInBounds_toArray, List.set_cons_succ, List.set_cons_zero]))
        | ((with_reducible refine g_at (d := 27) ?_); refine wpl_len rfl Tryd.underlying22 (by first | assumption | exact Own.sl (by assumption) | exact Sl.back (by first | assumption | exact Ext.drew' (by assumption) | exact Ext.undrew (by assumption)) (by first | assumption | exact Own.sl (by assumption) | exact Sl.back (by first | assumption | exact Ext.drew' (by assumption) | exact Ext.undrew (by assumption)) (by first | assumption | exact Own.sl (by assumption) | exact Sl.back (by first | assumption | exact Ext.drew' (by assumption) | exact Ext.undrew (by assumption)) (by first | assumption | exact Own.sl (by assumption) | exact Sl.back (by first | assumption | exact Ext.drew' (by assumption) | exact Ext.undrew (by assumption)) (by first | assumption | exact Own.sl (by assumption) | exact Sl.back (by first | assumption | exact Ext.drew' (by assumption) | exact Ext.undrew (by assumption)) (by first | assumption | exact Own.sl (by assumption) | exact Sl.back (by first | assumption | exact Ext.drew' (by assumption) | exact Ext.undrew (by assumption)) (by first | assumption | exact Own.sl (by assumption) | exact Sl.back (by first | assumption | exact Ext.drew' (by assumption) | exact Ext.undrew (by assumption)) (by first | assumption | exact Own.sl (by assumption))))))))) (by first | rw [List.length_map] | rfl) ?_; try (conv in (Act.put _ _ _) => simp only [Act.put, List.setIfInBounds_toArray, List.set_cons_succ, List.set_cons_zero]))
        | ((with_reducible refine g_at (d := 34) ?_); refine wpl_slice_from rfl rfl Tryd.underlying22 hi5 hs5 (by first | assumption | exact Own.sl (by assumption) | exact Sl.back (by first | assumption | exact Ext.drew' (by assumption) | exact Ext.undrew (by assumption)) (by first | assumption | exact Own.sl (by assumption) | exact Sl.back (by first | assumption | exact Ext.drew' (by assumption) | exact Ext.undrew (by assumption)) (by first | assumption | exact Own.sl (by assumption) | exact Sl.back (by first | assumption | exact Ext.drew' (by assumption) | exact Ext.undrew (by assumption)) (by first | assumption | exact Own.sl (by assumption) | exact Sl.back (by first | assumption | exact Ext.drew' (by assumption) | exact Ext.undrew (by assumption)) (by first | assumption | exact Own.sl (by assumption) | exact Sl.back (by first | assumption | exact Ext.drew' (by assumption) | exact Ext.undrew (by assumption)) (by first | assumption | exact Own.sl (by assumption) | exact Sl.back (by first | assumption | exact Ext.drew' (by assumption) | exact Ext.undrew (by assumption)) (by first | assumption | exact Own.sl (by assumption) | exact Sl.back (by first | assumption | exact Ext.drew' (by assumption) | exact Ext.undrew (by assumption)) (by first | assumption | exact Own.sl (by assumption))))))))) rfl (by first | omega | (simp <;> omega)) ?_; intro v34 h34; (try simp only [← List.map_take, ← List.map_drop, List.take_zero, List.drop_zero] at h34); try (conv in (Act.put _ _ _) => simp only [Act.put, List.setIfInBounds_toArray, List.set_cons_succ, List.set_cons_zero]))
        | ((with_reducible refine g_at (d := 45) ?_); refine wpl_conv rfl (by exact conv_wb Tryd.underlying28 Tryd.underlying5 _ _) ?_; try (conv in (Act.put _ _ _) => simp only [Act.put, List.setIfInBounds_toArray, List.set_cons_succ, List.set_cons_zero]))
        | ((with_reducible refine g_at (d := 48) ?_); refine wpl_conv rfl (by exact conv_wb Tryd.underlying28 Tryd.underlying5 _ _) ?_; try (conv in (Act.put _ _ _) => simp only [Act.put, List.setIfInBounds_toArray, List.set_cons_succ, List.set_cons_zero]))
        | ((with_reducible refine g_at (d := 51) ?_); refine wpl_conv rfl (by exact conv_wb Tryd.underlying28 Tryd.underlying5 _ _) ?_; try (conv in (Act.put _ _ _) => simp only [Act.put, List.setIfInBounds_toArray, List.set_cons_succ, List.set_cons_zero]))
        | ((with_reducible refine g_at (d := 53) ?_); refine wpl_conv rfl (by exact conv_wb Tryd.underlying28 Tryd.underlying5 _ _) ?_; try (conv in (Act.put _ _ _) => simp only [Act.put, List.setIfInBounds_toArray, List.set_cons_succ, List.set_cons_zero]))
        | ((with_reducible refine g_at (d := 44) ?_); refine wpl_bin rfl rfl (by exact Go.Ch.run_shr32 _ _ _ _ _ 24 (by omega) _) ?_; try (conv in (Act.put _ _ _) => simp only [Act.put, List.setIfInBounds_toArray, List.set_cons_succ, List.set_cons_zero]))
        | ((with_reducible refine g_at (d := 47) ?_); refine wpl_bin rfl rfl (by exact Go.Ch.run_shr32 _ _ _ _ _ 16 (by omega) _) ?_; try (conv in (Act.put _ _ _) => simp only [Act.put, List.setIfInBounds_toArray, List.set_cons_succ, List.set_cons_zero]))
        | ((with_reducible refine g_at (d := 50) ?_); refine wpl_bin rfl rfl (by exact Go.Ch.run_shr32 _ _ _ _ _ 8 (by omega) _) ?_; try (conv in (Act.put _ _ _) => simp only [Act.put, List.setIfInBounds_toArray, List.set_cons_succ, List.set_cons_zero])))
      go_roundw
      case rel => exact ⟨k + 1, by omega, by go_num, hBs6, hSq.grown hgs6 (fun g hg => by injection hg with hg; omega), hxq.trans (grown_below hgs6 hb6w hxq.size)⟩
      case measure => simp [intOf]; omega
    · obtain rfl : k = q := by omega
      generalize hV : pressN consts begin8 A k = V at hBv
      have HV := Lib.hid hV
      clear hV
      have hd : decide (64 * (k : Int) < (A.length : Int)) = false := by simp; omega
      go_wp2_with (first
        | ((with_reducible refine g_at (d := 27) ?_); refine wpl_len rfl Tryd.underlying22 hSl (by first | rw [List.length_map] | rfl) ?_; try (conv in (Act.put _ _ _) => simp only [Act.put, List.setIfInBounds_toArray, List.set_cons_succ, List.set_cons_zero]))
        | ((with_reducible refine g_at (d := 38) ?_); refine wpl_loadrow (cs := (V.list.map w32).toArray) (t' := 29) rfl hBv Tryd.underlying29 rfl (by simp [hsz29, len8]) ?_; try (conv in (Act.put _ _ _) => simp only [Act.put, List.setIfInBounds_toArray, List.set_cons_succ, List.set_cons_zero]))
        | ((with_reducible refine g_at (d := 13) ?_); refine wpl_len rfl Tryd.underlying22 (by first | assumption | exact Own.sl (by assumption) | exact Sl.back (by first | assumption | exact Ext.drew' (by assumption) | exact Ext.undrew (by assumption)) (by first | assumption | exact Own.sl (by assumption) | exact Sl.back (by first | assumption | exact Ext.drew' (by assumption) | exact Ext.undrew (by assumption)) (by first | assumption | exact Own.sl (by assumption) | exact Sl.back (by first | assumption | exact Ext.drew' (by assumption) | exact Ext.undrew (by assumption)) (by first | assumption | exact Own.sl (by assumption) | exact Sl.back (by first | assumption | exact Ext.drew' (by assumption) | exact Ext.undrew (by assumption)) (by first | assumption | exact Own.sl (by assumption) | exact Sl.back (by first | assumption | exact Ext.drew' (by assumption) | exact Ext.undrew (by assumption)) (by first | assumption | exact Own.sl (by assumption) | exact Sl.back (by first | assumption | exact Ext.drew' (by assumption) | exact Ext.undrew (by assumption)) (by first | assumption | exact Own.sl (by assumption) | exact Sl.back (by first | assumption | exact Ext.drew' (by assumption) | exact Ext.undrew (by assumption)) (by first | assumption | exact Own.sl (by assumption))))))))) (by first | rw [List.length_map] | rfl) ?_; try (conv in (Act.put _ _ _) => simp only [Act.put, List.setIfInBounds_toArray, List.set_cons_succ, List.set_cons_zero]))
        | ((with_reducible refine g_at (d := 19) ?_); refine wpl_buildSlice (vs := []) Tryd.underlying22 hi5 hz5 hs5 rfl (xs := []) rfl rfl rfl (by simp) (by omega) ?_; intro v19 w19 h19 hx19 ha19; try (conv in (Act.put _ _ _) => simp only [Act.put, List.setIfInBounds_toArray, List.set_cons_succ, List.set_cons_zero]))
        | ((with_reducible refine g_at (d := 34) ?_); refine wpl_slice_from rfl rfl Tryd.underlying22 hi5 hs5 (by first | assumption | exact Own.sl (by assumption) | exact Sl.back (by first | assumption | exact Ext.drew' (by assumption) | exact Ext.undrew (by assumption)) (by first | assumption | exact Own.sl (by assumption) | exact Sl.back (by first | assumption | exact Ext.drew' (by assumption) | exact Ext.undrew (by assumption)) (by first | assumption | exact Own.sl (by assumption) | exact Sl.back (by first | assumption | exact Ext.drew' (by assumption) | exact Ext.undrew (by assumption)) (by first | assumption | exact Own.sl (by assumption) | exact Sl.back (by first | assumption | exact Ext.drew' (by assumption) | exact Ext.undrew (by assumption)) (by first | assumption | exact Own.sl (by assumption) | exact Sl.back (by first | assumption | exact Ext.drew' (by assumption) | exact Ext.undrew (by assumption)) (by first | assumption | exact Own.sl (by assumption) | exact Sl.back (by first | assumption | exact Ext.drew' (by assumption) | exact Ext.undrew (by assumption)) (by first | assumption | exact Own.sl (by assumption) | exact Sl.back (by first | assumption | exact Ext.drew' (by assumption) | exact Ext.undrew (by assumption)) (by first | assumption | exact Own.sl (by assumption))))))))) rfl (by first | omega | (simp <;> omega)) ?_; intro v34 h34; (try simp only [← List.map_take, ← List.map_drop, List.take_zero, List.drop_zero] at h34); try (conv in (Act.put _ _ _) => simp only [Act.put, List.setIfInBounds_toArray, List.set_cons_succ, List.set_cons_zero]))
        | ((with_reducible refine g_at (d := 45) ?_); refine wpl_conv rfl (by exact conv_wb Tryd.underlying28 Tryd.underlying5 _ _) ?_; try (conv in (Act.put _ _ _) => simp only [Act.put, List.setIfInBounds_toArray, List.set_cons_succ, List.set_cons_zero]))
        | ((with_reducible refine g_at (d := 48) ?_); refine wpl_conv rfl (by exact conv_wb Tryd.underlying28 Tryd.underlying5 _ _) ?_; try (conv in (Act.put _ _ _) => simp only [Act.put, List.setIfInBounds_toArray, List.set_cons_succ, List.set_cons_zero]))
        | ((with_reducible refine g_at (d := 51) ?_); refine wpl_conv rfl (by exact conv_wb Tryd.underlying28 Tryd.underlying5 _ _) ?_; try (conv in (Act.put _ _ _) => simp only [Act.put, List.setIfInBounds_toArray, List.set_cons_succ, List.set_cons_zero]))
        | ((with_reducible refine g_at (d := 53) ?_); refine wpl_conv rfl (by exact conv_wb Tryd.underlying28 Tryd.underlying5 _ _) ?_; try (conv in (Act.put _ _ _) => simp only [Act.put, List.setIfInBounds_toArray, List.set_cons_succ, List.set_cons_zero]))
        | ((with_reducible refine g_at (d := 44) ?_); refine wpl_bin rfl rfl (by exact Go.Ch.run_shr32 _ _ _ _ _ 24 (by omega) _) ?_; try (conv in (Act.put _ _ _) => simp only [Act.put, List.setIfInBounds_toArray, List.set_cons_succ, List.set_cons_zero]))
        | ((with_reducible refine g_at (d := 47) ?_); refine wpl_bin rfl rfl (by exact Go.Ch.run_shr32 _ _ _ _ _ 16 (by omega) _) ?_; try (conv in (Act.put _ _ _) => simp only [Act.put, List.setIfInBounds_toArray, List.set_cons_succ, List.set_cons_zero]))
        | ((with_reducible refine g_at (d := 50) ?_); refine wpl_bin rfl rfl (by exact Go.Ch.run_shr32 _ _ _ _ _ 8 (by omega) _) ?_; try (conv in (Act.put _ _ _) => simp only [Act.put, List.setIfInBounds_toArray, List.set_cons_succ, List.set_cons_zero])))
      go_loopw [39, 8] (fun i o wr => ∃ k : Nat, k ≤ 8 ∧ i = .int .i64 k ∧ Own wr w.heap.size 5 o (((V.list.take k).flatMap bytesOf).map bU) ∧ Ext w wr) (fun i _ _ => 8 - (intOf i).toNat)
      case atStart => exact ⟨0, by omega, rfl, World.ownsRow_nil _ _ _ _, hx⟩
      case round =>
        obtain ⟨k, hk, rfl, ho, hx⟩ := hrel
        have hfl : ((V.list.take k).flatMap bytesOf).length ≤ 32 := by
          have : ∀ l : List UInt32, (l.flatMap bytesOf).length = 4 * l.length := fun l => by
            induction l with
            | nil => rfl
            | cons x l ih => simp [ih, bytesOf]; omega
          rw [this, List.length_take, len8]; omega
        by_cases hlt : k < 8
        · have hd8 : decide ((k : Int) < 8) = true := by simp; omega
          have e : (V.list.take (k + 1)).flatMap bytesOf = (V.list.take k).flatMap bytesOf ++ bytesOf (V.list.getD k 0) := by
            rw [List.take_succ_eq_append_getElem (by rw [len8]; exact hlt), List.flatMap_append]
            congr 1
            rw [List.getD_eq_getElem?_getD, List.getElem?_eq_getElem (by rw [len8]; exact hlt)]
            simp
          have hu := words_get V k hlt
          generalize V.list.getD k 0 = x at hu e
          generalize (V.list.take k).flatMap bytesOf = F at ho e hfl
          have HE := Lib.hid e
          have HU := Lib.hid hu
          clear e hu
          go_wp2_with (first
            | ((with_reducible refine g_at (d := 41) ?_); refine wpl_ixval rfl rfl Tryd.underlying29 Tryd.underlying28 rfl hi28 hs28 rfl (by omega) HU.out ?_; try (conv in (Act.put _ _ _) => simp only [Act.put, List.setIfInBounds_toArray, List.set_cons_succ, List.set_cons_zero]))
            | ((with_reducible refine g_at (d := 54) ?_); refine wpl_buildSlice (vs := [bU ((x >>> UInt32.ofNat 24).toUInt8), bU ((x >>> UInt32.ofNat 16).toUInt8), bU ((x >>> UInt32.ofNat 8).toUInt8), bU x.toUInt8]) Tryd.underlying22 hi5 hz5 hs5 rfl (xs := [(.tmp 45), (.tmp 48), (.tmp 51), (.tmp 53)]) rfl rfl rfl (by intro u hu; simp at hu; rcases hu with rfl | rfl | rfl | rfl <;> rfl) (by omega) ?_; intro v54 w54 h54 hx54 ha54; try (conv in (Act.put _ _ _) => simp only [Act.put, List.setIfInBounds_toArray, List.set_cons_succ, List.set_cons_zero]))
            | ((with_reducible refine g_at (d := 55) ?_); refine wpl_append (v := u8) rfl rfl Tryd.underlying22 hi5 hz5 hs5 hb5 rfl (ho.ext hx54) h54.sl (bU_one (bytesOf x)) (by first | omega | (simp <;> omega)) (by omega) (Nat.le_trans hx.size hx54.size) ?_; intro v55 w55 h55 hg55 ha55 hx55; try (conv in (Act.put _ _ _) => simp only [Act.put, List.setIfInBounds_toArray, List.set_cons_succ, List.set_cons_zero]))
            | ((with_reducible refine g_at (d := 13) ?_); refine wpl_len rfl Tryd.underlying22 (by first | assumption | exact Own.sl (by assumption) | exact Sl.back (by first | assumption | exact Ext.drew' (by assumption) | exact Ext.undrew (by assumption)) (by first | assumption | exact Own.sl (by assumption) | exact Sl.back (by first | assumption | exact Ext.drew' (by assumption) | exact Ext.undrew (by assumption)) (by first | assumption | exact Own.sl (by assumption) | exact Sl.back (by first | assumption | exact Ext.drew' (by assumption) | exact Ext.undrew (by assumption)) (by first | assumption | exact Own.sl (by assumption) | exact Sl.back (by first | assumption | exact Ext.drew' (by assumption) | exact Ext.undrew (by assumption)) (by first | assumption | exact Own.sl (by assumption) | exact Sl.back (by first | assumption | exact Ext.drew' (by assumption) | exact Ext.undrew (by assumption)) (by first | assumption | exact Own.sl (by assumption) | exact Sl.back (by first | assumption | exact Ext.drew' (by assumption) | exact Ext.undrew (by assumption)) (by first | assumption | exact Own.sl (by assumption) | exact Sl.back (by first | assumption | exact Ext.drew' (by assumption) | exact Ext.undrew (by assumption)) (by first | assumption | exact Own.sl (by assumption))))))))) (by first | rw [List.length_map] | rfl) ?_; try (conv in (Act.put _ _ _) => simp only [Act.put, List.setIfInBounds_toArray, List.set_cons_succ, List.set_cons_zero]))
            | ((with_reducible refine g_at (d := 19) ?_); refine wpl_buildSlice (vs := []) Tryd.underlying22 hi5 hz5 hs5 rfl (xs := []) rfl rfl rfl (by simp) (by omega) ?_; intro v19 w19 h19 hx19 ha19; try (conv in (Act.put _ _ _) => simp only [Act.put, List.setIfInBounds_toArray, List.set_cons_succ, List.set_cons_zero]))
            | ((with_reducible refine g_at (d := 27) ?_); refine wpl_len rfl Tryd.underlying22 (by first | assumption | exact Own.sl (by assumption) | exact Sl.back (by first | assumption | exact Ext.drew' (by assumption) | exact Ext.undrew (by assumption)) (by first | assumption | exact Own.sl (by assumption) | exact Sl.back (by first | assumption | exact Ext.drew' (by assumption) | exact Ext.undrew (by assumption)) (by first | assumption | exact Own.sl (by assumption) | exact Sl.back (by first | assumption | exact Ext.drew' (by assumption) | exact Ext.undrew (by assumption)) (by first | assumption | exact Own.sl (by assumption) | exact Sl.back (by first | assumption | exact Ext.drew' (by assumption) | exact Ext.undrew (by assumption)) (by first | assumption | exact Own.sl (by assumption) | exact Sl.back (by first | assumption | exact Ext.drew' (by assumption) | exact Ext.undrew (by assumption)) (by first | assumption | exact Own.sl (by assumption) | exact Sl.back (by first | assumption | exact Ext.drew' (by assumption) | exact Ext.undrew (by assumption)) (by first | assumption | exact Own.sl (by assumption) | exact Sl.back (by first | assumption | exact Ext.drew' (by assumption) | exact Ext.undrew (by assumption)) (by first | assumption | exact Own.sl (by assumption))))))))) (by first | rw [List.length_map] | rfl) ?_; try (conv in (Act.put _ _ _) => simp only [Act.put, List.setIfInBounds_toArray, List.set_cons_succ, List.set_cons_zero]))
            | ((with_reducible refine g_at (d := 34) ?_); refine wpl_slice_from rfl rfl Tryd.underlying22 hi5 hs5 (by first | assumption | exact Own.sl (by assumption) | exact Sl.back (by first | assumption | exact Ext.drew' (by assumption) | exact Ext.undrew (by assumption)) (by first | assumption | exact Own.sl (by assumption) | exact Sl.back (by first | assumption | exact Ext.drew' (by assumption) | exact Ext.undrew (by assumption)) (by first | assumption | exact Own.sl (by assumption) | exact Sl.back (by first | assumption | exact Ext.drew' (by assumption) | exact Ext.undrew (by assumption)) (by first | assumption | exact Own.sl (by assumption) | exact Sl.back (by first | assumption | exact Ext.drew' (by assumption) | exact Ext.undrew (by assumption)) (by first | assumption | exact Own.sl (by assumption) | exact Sl.back (by first | assumption | exact Ext.drew' (by assumption) | exact Ext.undrew (by assumption)) (by first | assumption | exact Own.sl (by assumption) | exact Sl.back (by first | assumption | exact Ext.drew' (by assumption) | exact Ext.undrew (by assumption)) (by first | assumption | exact Own.sl (by assumption) | exact Sl.back (by first | assumption | exact Ext.drew' (by assumption) | exact Ext.undrew (by assumption)) (by first | assumption | exact Own.sl (by assumption))))))))) rfl (by first | omega | (simp <;> omega)) ?_; intro v34 h34; (try simp only [← List.map_take, ← List.map_drop, List.take_zero, List.drop_zero] at h34); try (conv in (Act.put _ _ _) => simp only [Act.put, List.setIfInBounds_toArray, List.set_cons_succ, List.set_cons_zero]))
            | ((with_reducible refine g_at (d := 45) ?_); refine wpl_conv rfl (by exact conv_wb Tryd.underlying28 Tryd.underlying5 _ _) ?_; try (conv in (Act.put _ _ _) => simp only [Act.put, List.setIfInBounds_toArray, List.set_cons_succ, List.set_cons_zero]))
            | ((with_reducible refine g_at (d := 48) ?_); refine wpl_conv rfl (by exact conv_wb Tryd.underlying28 Tryd.underlying5 _ _) ?_; try (conv in (Act.put _ _ _) => simp only [Act.put, List.setIfInBounds_toArray, List.set_cons_succ, List.set_cons_zero]))
            | ((with_reducible refine g_at (d := 51) ?_); refine wpl_conv rfl (by exact conv_wb Tryd.underlying28 Tryd.underlying5 _ _) ?_; try (conv in (Act.put _ _ _) => simp only [Act.put, List.setIfInBounds_toArray, List.set_cons_succ, List.set_cons_zero]))
            | ((with_reducible refine g_at (d := 53) ?_); refine wpl_conv rfl (by exact conv_wb Tryd.underlying28 Tryd.underlying5 _ _) ?_; try (conv in (Act.put _ _ _) => simp only [Act.put, List.setIfInBounds_toArray, List.set_cons_succ, List.set_cons_zero]))
            | ((with_reducible refine g_at (d := 44) ?_); refine wpl_bin rfl rfl (by exact Go.Ch.run_shr32 _ _ _ _ _ 24 (by omega) _) ?_; try (conv in (Act.put _ _ _) => simp only [Act.put, List.setIfInBounds_toArray, List.set_cons_succ, List.set_cons_zero]))
            | ((with_reducible refine g_at (d := 47) ?_); refine wpl_bin rfl rfl (by exact Go.Ch.run_shr32 _ _ _ _ _ 16 (by omega) _) ?_; try (conv in (Act.put _ _ _) => simp only [Act.put, List.setIfInBounds_toArray, List.set_cons_succ, List.set_cons_zero]))
            | ((with_reducible refine g_at (d := 50) ?_); refine wpl_bin rfl rfl (by exact Go.Ch.run_shr32 _ _ _ _ _ 8 (by omega) _) ?_; try (conv in (Act.put _ _ _) => simp only [Act.put, List.setIfInBounds_toArray, List.set_cons_succ, List.set_cons_zero])))
          go_roundw
          case rel => exact ⟨k + 1, by omega, by go_num, by rw [HE.out, List.map_append]; exact h55, (hx.tr hx54).trans hx55⟩
          case measure => simp [intOf]; omega
        · obtain rfl : k = 8 := by omega
          have hd8 : decide (((8 : Nat) : Int) < 8) = false := by simp
          go_wp2
          go_ret
          refine ⟨_, rfl, hx, ?_⟩
          have e : digest consts begin8 l = (V.list.take 8).flatMap bytesOf := by
            unfold digest
            rw [HQ.out, HA.out, Nat.mul_div_cancel_left _ (by omega), HV.out, List.take_of_length_le (by rw [len8]; omega)]
          rw [e]; exact ho
end Go.Proofs.YtamddohbpdbdmaaDoor
end
section
set_option linter.unusedVariables false
set_option linter.unusedSimpArgs false
namespace Go.Proofs.YtamddohbpdbdmaaDoor
open Go.RowKit Go.Ch Go.Sx

theorem GK.keep {w w' : World} (hx : Ext w w') (h : GK w) : GK w' := h.ext hx
theorem sl_b {w : World} {e : TypeId} {l : List UInt8} {v : Value} {p : Pl} (h : InSl w e l.length (.b l) v p) : Sl w w.heap.size v (l.map bU) := h.sl (fun _ _ h => csR_b.1 h) (by simp)

def sum_ct : Ct := fun args H => match args with
  | [x] => (match aB H x with | some l => some ([l.length ≤ 100000], .c (.wh H.length), [⟨.row, 5, 1, (digest consts begin8 l).length, .b (digest consts begin8 l)⟩]) | none => none)
  | _ => none
theorem sum_h : FnOk Tryd.prog GK 19 sum_ct := by
  refine ⟨fun args H g av objs hF hg ρ w vals hG hp ha => ?_, _, Tryd.func19, by kernel_rfl, by kernel_rfl⟩
  unfold sum_ct at hF
  split at hF
  · split at hF
    · rename_i x l hl
      simp only [Option.some.injEq, Prod.mk.injEq] at hF
      obtain ⟨rfl, rfl, rfl⟩ := hF
      obtain ⟨v, vals, rfl, k, ha⟩ := F2.inv ha
      obtain rfl := F2.inv0 ha
      obtain ⟨p, hI⟩ := aB_ok hp hl k 5
      have hb : l.length ≤ 100000 := by simpa [allP] using hg
      exact calls_mono (sum_c w _ v l (sl_b hI) hb hG) fun v w' ⟨hx, hv⟩ => ⟨hx, left_row hv (fun _ => csR_b.2 rfl) (by simp)⟩
    · cases hF
  · cases hF
end Go.Proofs.YtamddohbpdbdmaaDoor
end
section
set_option linter.unusedVariables false
set_option linter.unusedSimpArgs false
namespace Go.Ch
open Go.ChangeShapes Go.WideShapes Go.RowKit

end Go.Ch
namespace Go.Proofs.YtamddohbpdbdmaaDoor
open Go.ChangeShapes Go.WideShapes Go.ChangeAt Go.RowKit Go.Ch

theorem words_cells : Tryd.prog.cellsOf 28 = 1 := by kernel_rfl
theorem own : ownKnob Tryd.prog.godebug = none := by kernel_rfl
theorem laidOut : laidOutB Tryd.prog = true := by kernel_rfl
theorem gK : Tryd.prog.globalNamed "charter/sha.constants" = some 0 := by kernel_rfl
theorem tK : (Tryd.prog.globals[0]?).map (·.type) = some 62 := by kernel_rfl
abbrev laidK : List (String × DataW Unit) := [("charter/sha.constants", Rows.laid_charter_sha_constants)]

theorem door_met (os : Os) (args : Array Value) : laidMetH Tryd.prog laidK ((World.doorLaid Tryd.prog 400 os).forCall (fun _ _ => 0) ⟨#[], args, []⟩).memory :=
  laidMetH_of_parts3 (fuel := 8) (laidMet_of_run' 8 (by kernel_rfl) (by kernel_rfl)) (by kernel_rfl) (by kernel_rfl)

theorem laid_is : (Rows.laid_charter_sha_constants : DataW Unit) = .agg (consts.map fun x => .lit (.int .u32 (x.toNat : Int))) := by rfl

/-- WHAT THE CONDITION GIVES THE WALKS: the table's cells -/
theorem of_laid {W : World} (h : laidMetH Tryd.prog laidK W) : GK W := by
  rw [MakeChecks.laidMetH_plain _ _ _ (by kernel_rfl)] at h
  obtain ⟨ps, ⟨g0, t0, cs0, f0, p0, q0, hg0, ht0, hv0, hd0, _, _⟩, _, _⟩ := h
  obtain rfl := Option.some.inj (gK.symm.trans hg0)
  obtain rfl := Option.some.inj (tK.symm.trans ht0)
  obtain ⟨xs, m, _, hx1, hlen, hn, hel⟩ := DataW.trod_array Tryd.underlying62 hd0
  rw [laid_is] at hx1
  simp only [Prod.mk.injEq, DataW.agg.injEq] at hx1
  intro k hk
  have h1 := hel k hk
  rw [words_cells, List.getElem?_eq_getElem (by omega)] at h1
  obtain ⟨z, hz, hx, _⟩ := DataW.trod_int Tryd.underlying28 h1
  have h2 := congrArg (·[0]?) hz
  simp only [List.getElem?_take, Nat.mul_one, List.getElem?_drop, Nat.add_zero] at h2
  have h3 := congrArg (·[k]?) hx1.1
  simp only [List.getElem?_map] at h3
  rw [List.getElem?_eq_getElem (show k < xs.length by omega), List.getElem?_eq_getElem (show k < consts.length from hk), hx] at h3
  have h5 := World.var?_cell hg0 hv0 k
  rw [h5]
  simp only [Option.map_some, Option.some.injEq, DataW.lit.injEq, Lit.int.injEq, true_and] at h3
  have h4 : cs0.toList[k]? = some (.int .u32 z) := by simpa using h2
  rw [← Array.getElem?_toList, h4, ← h3, List.getD_eq_getElem?_getD, List.getElem?_eq_getElem (show k < consts.length from hk)]
  rfl
end Go.Proofs.YtamddohbpdbdmaaDoor
end
section
set_option linter.unusedVariables false
set_option linter.unusedSimpArgs false
namespace Go.Sx
open Go.RowKit Go.Ch
section
variable {P : Program} {T : Tab} {ft : Nat → FT} {ρ : Pls} {w w' : World} {bs : Bs} {w0 wB : World} {s s' : S} {a : Act} {N m : Nat}

/-! ### a drawn region with one store among what is free: no other operation looks at the cells that it writes -/
def XS (wA wB : World) (a b : World) : Prop := a = b ∨ (a = wA ∧ b = wB)
theorem XS.tr {wA wB a b c : World} (h1 : XS wA wB a b) (h2 : XS wA wB b c) : XS wA wB a c := by
  rcases h1 with rfl | ⟨rfl, rfl⟩
  · exact h2
  · rcases h2 with rfl | ⟨_, rfl⟩
    · exact .inr ⟨rfl, rfl⟩
    · exact .inr ⟨rfl, rfl⟩
end
end Go.Sx
end
section
set_option linter.unusedVariables false
set_option linter.unusedSimpArgs false
namespace Go.Sx
open Go.RowKit Go.Ch
section
variable {P : Program} {T : Tab} {ρ ρ' : Pls} {w w' : World} {bs : Bs} {w0 : World} {s s' : S} {a : Act} {N : Nat}

/-! ### a part of what was handed in is handed back -/
theorem GlR.cons {gl : Fr} {x : AV} (j : Nat) (hx : avR ρ x (bs.gv j)) (h : GlR bs ρ gl) : GlR bs ρ ((1000000 + j, x) :: gl) := by
  intro t y hy
  rw [List.lookup_cons] at hy
  split at hy
  · rename_i e
    have e : t = 1000000 + j := by simpa using e
    subst e
    injection hy with hy; subst hy
    unfold gvOf
    rw [if_neg (by omega), Nat.add_sub_cancel_left]
    exact hx
  · exact h t y hy
def subC (lo n : Nat) : AV → Option AV
  | .c (.wh i) => some (.c (.sl i lo n))
  | .c (.sl i l0 _) => some (.c (.sl i (oddA l0 lo) n))
  | _ => none
def Sz1 (ρ : Pls) (x : AV) : Prop := ∀ i, (x = .c (.wh i) ∨ ∃ l0 n0, x = .c (.sl i l0 n0)) → (ρ i).sz = 1
theorem sz_live {H : Hp} (hp : HpR ρ w H) {i : Nat} {o : Oj} (h : liveS H i = some o) (h1 : o.sz = 1) : (ρ i).sz = 1 := by
  obtain ⟨h2, h3⟩ := liveS_ok h
  obtain ⟨⟨e1, _⟩, _⟩ := (hp i o h2).read (nd h3)
  rw [e1, h1]
theorem aB_sz {H : Hp} (hp : HpR ρ w H) {x : AV} {l : List UInt8} (h : aB H x = some l) : Sz1 ρ x := by
  intro i hi
  rcases hi with e | ⟨l0, n0, e⟩
  · subst e
    simp only [aB, viewB] at h
    split at h
    · rename_i o ho; split at h
      · rename_i h1 _; exact sz_live hp ho h1
      · cases h
    · cases h
  · subst e
    simp only [aB, viewB] at h
    split at h
    · rename_i o ho; split at h
      · rename_i h1 _; exact sz_live hp ho h1
      · cases h
    · cases h
theorem retB_ok {gv : Nat → Value} (hR : Rel N (noB gv) w s a w') {fn : Func} {t : Nat} (hf : fn.results = #[.tmp t]) {k lo n q : Nat} (hfr : s.fr.lookup t = some (.c (.sl k lo n))) (hgl : s.gl.lookup (1000000 + q) = some (.c (.wh k)))
    (hsz : (liveS s.H k).map (·.sz) = some 1) {ρ0 : Pls} {H : Hp} {x y : AV} (hx : avR ρ0 x (gv q)) (hz : Sz1 ρ0 x) (hy : subC lo n x = some y) :
    ∃ v, (results fn a.tmps).run P w' = .ok v w' ∧ Ext w w' ∧ ∃ ps, Left ρ0 w H y [] v w' ps := by
  obtain ⟨_, _, ρ, hr⟩ := hR
  have hv := hr.fr t _ hfr
  have hg := hr.gl _ _ hgl
  have hgv : gvOf (noB gv) (1000000 + q) = gv q := by
    unfold gvOf; rw [if_neg (by omega), Nat.add_sub_cancel_left]; rfl
  rw [hgv] at hg
  obtain ⟨o, ho, ho1⟩ : ∃ o, liveS s.H k = some o ∧ o.sz = 1 := by
    cases hl : liveS s.H k with
    | none => rw [hl] at hsz; cases hsz
    | some o => rw [hl] at hsz; injection hsz with hsz; exact ⟨o, rfl, hsz⟩
  have hs := sz_live hr.hp ho ho1
  obtain ⟨k1, A, c, hA, k2, k3, k4, k5⟩ := hv
  have hg' : gv q = .slice (ρ k).A (ρ k).n (ρ k).cap := hg
  refine ⟨_, results_tmp hf _ _ _, hr.kp.below, [], rfl, fun j o p ho => by simp at ho, ?_, fun j o p g ho => by simp at ho, fun j l o o' p p' g hjl ho => by simp at ho⟩
  have hu : updL ρ0 H.length [] = ρ0 := by funext i; unfold updL; split <;> simp
  rw [hu]
  unfold subC at hy
  split at hy
  · rename_i i
    injection hy with hy; subst hy
    have hx' : gv q = .slice (ρ0 i).A (ρ0 i).n (ρ0 i).cap := hx
    rw [hg'] at hx'
    injection hx' with e1 e2 e3
    have h1 := hz i (.inl rfl)
    show clR ρ0 (.sl i lo n) _
    exact ⟨by omega, A, c, hA, k2, k3, k4, fun h => by rw [k5 h, hs, e1, h1]⟩
  · rename_i i l0 n0
    injection hy with hy; subst hy
    obtain ⟨m1, A', c', hA', m2, m3, m4, m5⟩ := hx
    rw [hg'] at hA'
    injection hA' with e1 e2 e3
    have h1 := hz i (.inr ⟨l0, n0, rfl⟩)
    have ho : oddA l0 lo = l0 + lo := oddA_eq l0 lo
    show clR ρ0 (.sl i (oddA l0 lo) n) _
    rw [ho]
    refine ⟨by omega, A, c, hA, k2, k3, k4, fun h => ?_⟩
    rw [k5 h, hs, e1, m5 (by omega), h1]
    cases (ρ0 i).A with
    | none => rfl
    | some ad => simp [add_add]
  · cases hy
end
end Go.Sx
end
section
set_option linter.unusedVariables false
set_option linter.unusedSimpArgs false
namespace Go.Sx
open Go.RowKit Go.Ch
section
variable {P : Program} {T : Tab} {ft : Nat → FT} {ρ : Pls} {w w' : World} {bs : Bs} {w0 : World} {s s' : S} {a a' : Act} {N : Nat} {ops : Array Oper} {asm : List (Nat × Bool)}

/-! ### a region that draws its order: operations that leave the world alone come up at any time -/
def vA (asm : List (Nat × Bool)) (i : Nat) (r : List Prop × AV) : Option (List Prop × AV) := match asm.lookup i with
  | none => some r
  | some bv => match r with
    | (g, .c (.s (.b e))) => some (g ++ [e = bv], .c (.s (.b bv)))
    | _ => none
def puV (T : Tab) (asm : List (Nat × Bool)) (i : Nat) (o : Oper) (s : S) : Option (List Prop × AV) := match vop T s.H (ev0 s.fr s.gl) o.op with
  | some r => vA asm i r
  | none => none
def puG (T : Tab) (ops : Array Oper) (asm : List (Nat × Bool)) (i : Nat) (o : Oper) (s : S) : Option (List Prop × AV) := match o.guard with
  | none => puV T asm i o s
  | some (j, want) => match (ops[j]?).bind (·.dst) with
    | none => none
    | some dj => match s.fr.lookup dj with
      | some (.c (.s (.b b))) => (match b, want with
        | true, true => puV T asm i o s
        | false, false => puV T asm i o s
        | true, false => some ([], .t [])
        | false, true => some ([], .t []))
      | some (.t []) => some ([], .t [])
      | _ => none
def runP (T : Tab) (N : Nat) (ops : Array Oper) (asm : List (Nat × Bool)) : List Nat → S → Option (List Prop × S)
  | [], s => some ([], s)
  | i :: is, s => match ops[i]? with
    | none => none
    | some o => match dOk N o.dst, puG T ops asm i o s with
      | true, some (g, z) => (match runP T N ops asm is ⟨putF s.fr o.dst z, s.gl, s.H⟩ with
        | some (g2, s2) => some (g ++ g2, s2)
        | none => none)
      | _, _ => none
/-- one way on: from node n the operation m leads to node t, then the operations ps; the same in other words -/
structure Ed where
  n : Nat
  m : Nat
  t : Nat
  ps : List Nat
  cs : List Co
  live : List Nat
  objs : List Nat
def stE (T : Tab) (ft : Nat → FT) (N : Nat) (ops : Array Oper) (asm : List (Nat × Bool)) (e : Ed) (s : S) : Option (List Prop × S) := match ops[e.m]? with
  | none => none
  | some o => match stG T ft N ops asm e.m o s with
    | none => none
    | some (g1, s1) => match runP T N ops asm e.ps s1 with
      | none => none
      | some (g2, s2) => match after e.cs e.live e.objs s2 with
        | none => none
        | some s3 => some (g1 ++ g2, s3)
def rdL (T : Tab) (ops : Array Oper) (asm : List (Nat × Bool)) (p : Nat) (s : S) : Option (Option (List Prop × AV)) := match ops[p]? with
  | some o => some (puG T ops asm p o s)
  | none => none
def rdR (ops : Array Oper) (g : List Prop) (p : Nat) (s : S) : Option (Option (List Prop × AV)) := match (ops[p]?).bind (·.dst) with
  | some d => (match s.fr.lookup d with | some z => some (some (g, z)) | none => none)
  | none => none
inductive AllE (T : Tab) (ft : Nat → FT) (N : Nat) (ops : Array Oper) (asm : List (Nat × Bool)) (sts : List S) (s : S) : List Ed → Prop
  | nil : AllE T ft N ops asm sts s []
  | cons {e : Ed} {l : List Ed} : (∃ g, stE T ft N ops asm e (sts.getD e.n s) = some (g, sts.getD e.t s) ∧ allP g) → AllE T ft N ops asm sts s l → AllE T ft N ops asm sts s (e :: l)
inductive AllR (T : Tab) (ops : Array Oper) (asm : List (Nat × Bool)) (sts : List S) (s : S) : List (Nat × Nat) → Prop
  | nil : AllR T ops asm sts s []
  | cons {k p : Nat} {l : List (Nat × Nat)} : (∃ g, rdL T ops asm p (sts.getD k s) = rdR ops g p (sts.getD k s) ∧ allP g) → AllR T ops asm sts s l → AllR T ops asm sts s ((k, p) :: l)
def okOps (ops : Array Oper) (N : Nat) (pu : List Nat) : Bool :=
  (List.range ops.size).all fun i => match ops[i]? with
    | none => false
    | some o => okEdges o (fun j => decide (j < i)) && ((match o.op with | .select _ _ => false | _ => true) &&
        (((o.looksAt ops).all fun t => pu.all fun p => match ops[p]? with | some q => q.dst != some t || inC ops i ops.size p | none => true) &&
        (!pu.contains i || (match o.dst with | some d => decide (d < N) | none => false))))
def okNode (ops : Array Oper) (pu : List Nat) (es : List Ed) (rd : List (Nat × Nat)) (k : Nat) (dn : List Nat) : Bool :=
  (List.range ops.size).all fun i => match dn.contains i with
    | true => !pu.contains i || (rd.contains (k, i) || dn.any fun m => !pu.contains m && (decide (m < ops.size) && inC ops m ops.size i))
    | false => (!pu.contains i && es.any fun e => Nat.beq e.n k && Nat.beq e.m i) || (List.range ops.size).any fun j => hasE ops i j && !dn.contains j
def okEdge (pu : List Nat) (nodes : List (List Nat)) (e : Ed) : Bool := match nodes[e.n]?, nodes[e.t]? with
  | some dn, some dt => !pu.contains e.m && (!dn.contains e.m && (e.ps.all (fun p => pu.contains p && !dn.contains p) && (dt.all (fun i => Nat.beq i e.m || (e.ps.contains i || dn.contains i)) && (dn.all (fun i => dt.contains i) && dt.contains e.m))))
  | _, _ => false
def okPlan (ops : Array Oper) (N : Nat) (pu : List Nat) (nodes : List (List Nat)) (ps0 : List Nat) (es : List Ed) (rd : List (Nat × Nat)) (fin : Nat) : Bool :=
  okOps ops N pu && (((List.range nodes.length).all fun k => okNode ops pu es rd k (nodes.getD k [])) && (es.all (okEdge pu nodes) &&
    ((ps0.all fun p => pu.contains p) && (((nodes.getD 0 []).all fun p => pu.contains p) && (decide (0 < nodes.length) &&
      ((List.range nodes.length).all fun k => Nat.beq k fin || (List.range ops.size).any fun i => !(nodes.getD k []).contains i))))))
structure Pln (ops : Array Oper) (N : Nat) (pu : List Nat) (nodes : List (List Nat)) (ps0 : List Nat) (es : List Ed) (rd : List (Nat × Nat)) (fin : Nat) : Prop where
  edges : ∀ (i : Nat) (o : Oper), ops[i]? = some o → okEdges o (fun j => decide (j < i)) = true
  nosel : ∀ (i : Nat) (o : Oper), ops[i]? = some o → ∀ cs b, o.op ≠ .select cs b
  look : ∀ (i : Nat) (o : Oper), ops[i]? = some o → ∀ t ∈ o.looksAt ops, ∀ p, p ∈ pu → ∀ (q : Oper), ops[p]? = some q → q.dst = some t → inC ops i ops.size p = true
  pdst : ∀ (p : Nat) (o : Oper), p ∈ pu → ops[p]? = some o → ∃ d, o.dst = some d ∧ d < N
  nin : ∀ k dn, nodes[k]? = some dn → ∀ i, i < ops.size → i ∈ dn → i ∈ pu → (k, i) ∈ rd ∨ ∃ m ∈ dn, m ∉ pu ∧ m < ops.size ∧ inC ops m ops.size i = true
  nout : ∀ k dn, nodes[k]? = some dn → ∀ i, i < ops.size → i ∉ dn → (i ∉ pu ∧ ∃ e ∈ es, e.n = k ∧ e.m = i) ∨ ∃ j, hasE ops i j = true ∧ j ∉ dn
  edge : ∀ e ∈ es, ∃ dn dt, nodes[e.n]? = some dn ∧ nodes[e.t]? = some dt ∧ e.m ∉ pu ∧ e.m ∉ dn ∧ (∀ p ∈ e.ps, p ∈ pu ∧ p ∉ dn) ∧ (∀ i ∈ dt, i = e.m ∨ i ∈ e.ps ∨ i ∈ dn) ∧ (∀ i ∈ dn, i ∈ dt) ∧ e.m ∈ dt
  start : ∀ p ∈ ps0, p ∈ pu
  zero : ∃ dn, nodes[0]? = some dn ∧ ∀ p ∈ dn, p ∈ pu
  last : ∀ k dn, nodes[k]? = some dn → (∀ i, i < ops.size → i ∈ dn) → k = fin
theorem Pln.of {pu : List Nat} {nodes : List (List Nat)} {ps0 : List Nat} {es : List Ed} {rd : List (Nat × Nat)} {fin : Nat} (h : okPlan ops N pu nodes ps0 es rd fin = true) : Pln ops N pu nodes ps0 es rd fin := by
  unfold okPlan at h
  simp only [Bool.and_eq_true] at h
  obtain ⟨h1, h2, h3, h4, h5, h6, h7⟩ := h
  have H : ∀ (i : Nat) (o : Oper), ops[i]? = some o → _ := fun i o ho => by
    have hi := (Array.getElem?_eq_some_iff.1 ho).1
    have := List.all_eq_true.1 h1 i (List.mem_range.2 hi)
    rw [ho] at this
    simp only [Bool.and_eq_true] at this
    exact this
  have nd : ∀ k dn, nodes[k]? = some dn → k < nodes.length ∧ nodes.getD k [] = dn := fun k dn hk => ⟨(List.getElem?_eq_some_iff.1 hk).1, by rw [List.getD_eq_getElem?_getD, hk]; rfl⟩
  refine ⟨fun i o ho => (H i o ho).1, fun i o ho cs b e => ?_, fun i o ho t ht p hp q hq hd => ?_, fun p o hp ho => ?_, fun k dn hk i hi hin hpu => ?_, fun k dn hk i hi hin => ?_, fun e he => ?_, fun p hp => ?_, ⟨nodes.getD 0 [], ?_, fun p hp => ?_⟩, fun k dn hk hall => ?_⟩
  · have := (H i o ho).2.1
    rw [e] at this; cases this
  · have := List.all_eq_true.1 (List.all_eq_true.1 (H i o ho).2.2.1 t ht) p hp
    rw [hq] at this
    simp only [hd, Bool.or_eq_true, bne_self_eq_false, Bool.false_eq_true, false_or] at this
    exact this
  · have := (H p o ho).2.2.2
    rw [show pu.contains p = true by simpa using hp] at this
    simp only [Bool.not_true, Bool.false_or] at this
    cases hd : o.dst with
    | none => rw [hd] at this; cases this
    | some d => rw [hd] at this; exact ⟨d, rfl, by simpa using this⟩
  · obtain ⟨hk1, hk2⟩ := nd k dn hk
    have := List.all_eq_true.1 (List.all_eq_true.1 h2 k (List.mem_range.2 hk1)) i (List.mem_range.2 hi)
    rw [hk2, show dn.contains i = true by simpa using hin, show pu.contains i = true by simpa using hpu] at this
    simp only [Bool.not_true, Bool.false_or, Bool.or_eq_true, List.any_eq_true, Bool.and_eq_true, decide_eq_true_eq, Bool.not_eq_true'] at this
    rcases this with h | ⟨m, hm, h1, h2, h3⟩
    · exact .inl (by simpa using h)
    · exact .inr ⟨m, hm, by simpa using h1, h2, h3⟩
  · obtain ⟨hk1, hk2⟩ := nd k dn hk
    have := List.all_eq_true.1 (List.all_eq_true.1 h2 k (List.mem_range.2 hk1)) i (List.mem_range.2 hi)
    rw [hk2, show dn.contains i = false by simpa using hin] at this
    simp only [Bool.or_eq_true, List.any_eq_true, Bool.and_eq_true, Bool.not_eq_true'] at this
    rcases this with ⟨h, e, he, h1, h2⟩ | ⟨j, _, h1, h2⟩
    · exact .inl ⟨by simpa using h, e, he, Nat.eq_of_beq_eq_true h1, Nat.eq_of_beq_eq_true h2⟩
    · exact .inr ⟨j, h1, by simpa using h2⟩
  · have := List.all_eq_true.1 h3 e he
    unfold okEdge at this
    split at this
    · rename_i dn dt hn ht
      simp only [Bool.and_eq_true, List.all_eq_true, Bool.not_eq_true', Bool.or_eq_true] at this
      obtain ⟨g1, g2, g3, g4, g5, g6⟩ := this
      refine ⟨dn, dt, hn, ht, by simpa using g1, by simpa using g2, fun p hp => ?_, fun i hi => ?_, fun i hi => ?_, by simpa using g6⟩
      · have := g3 p hp; exact ⟨by simpa using this.1, by simpa using this.2⟩
      · rcases g4 i hi with h | h | h
        · exact .inl (Nat.eq_of_beq_eq_true h)
        · exact .inr (.inl (by simpa using h))
        · exact .inr (.inr (by simpa using h))
      · simpa using g5 i hi
    · cases this
  · simpa using List.all_eq_true.1 h4 p hp
  · have h6' : 0 < nodes.length := by simpa using h6
    rw [List.getD_eq_getElem?_getD, List.getElem?_eq_getElem h6']; rfl
  · simpa using List.all_eq_true.1 h5 p hp
  · obtain ⟨hk1, hk2⟩ := nd k dn hk
    have := List.all_eq_true.1 h7 k (List.mem_range.2 hk1)
    simp only [Bool.or_eq_true, List.any_eq_true, List.mem_range, Bool.not_eq_true'] at this
    rcases this with h | ⟨i, hi, h⟩
    · exact Nat.eq_of_beq_eq_true h
    · rw [hk2] at h
      have := hall i hi
      simp only [List.contains_eq_mem, decide_eq_false_iff_not] at h
      exact absurd this h

theorem Act.same {a a' : Act} (h : a.tmps.size = a'.tmps.size) (hd : a.defers = a'.defers) (ht : ∀ t, a.tmps.getD t undef = a'.tmps.getD t undef) : a = a' := by
  obtain ⟨x, d⟩ := a; obtain ⟨y, d'⟩ := a'
  simp only at h hd ht
  subst hd
  have : x = y := by
    apply Array.ext h
    intro i h1 h2
    have := ht i
    simpa only [Array.getD_eq_getD_getElem?, Array.getElem?_eq_getElem h1, Array.getElem?_eq_getElem h2, Option.getD_some] using this
  rw [this]

end
end Go.Sx
end
