import Derived.Test.YthichmclbiggmaaDoorZ3
import Derived.Test.YthichmclbiggmaaDoorProg
import Derived.Shelf.RegionOpenPlain
import Derived.WalkKit
import Derived.Lib.Walk
import Derived.Lib.SliceRun
import Derived.Lib.AppendZerosOnto
set_option linter.unusedVariables false
set_option linter.unusedSimpArgs false
section
namespace Go.Proofs.YthichmclbiggmaaDoor
open Go.RowKit Go.Ch Go.Sx Go.Lib Go.Shelf Go.Proofs
theorem cat_u8 : (Tryd.prog.info? 5).map (fun i => (i.zero, i.size, i.bytes)) = some (some (.int .u8 0), 1, 1) := by kernel_rfl
set_option maxHeartbeats 2000000 in
set_option maxRecDepth 100000 in
theorem grow_0 (w : World) : Calls Tryd.prog 61 #[.slice none 0 0, .int .i64 0] w (Ret fun v w' => Ext w w' ∧ Own w' w.heap.size 5 v []) := by
 go_enter Tryd.func61, Tryd.ntmps61
 go_wp2
 go_ret
 exact ⟨_, rfl, Below.refl _ _, World.ownsRow_nil _ _ _ _⟩
set_option maxHeartbeats 4000000 in
set_option maxRecDepth 100000 in
theorem grow_1 (w : World) (n : Nat) (h0 : 0 < n) (hn : n ≤ 1000000000000) : Calls Tryd.prog 61 #[.slice none 0 0, .int .i64 n] w (Ret fun v w' => Ext w w' ∧ Own w' w.heap.size 5 v []) := by
 obtain ⟨i0, hi0, hz0, hs0, hb0⟩ := info_parts cat_u8
 have t22 : Tryd.prog.underlying 26 = some (.slice 5) := Tryd.underlying26
 have t3 : Tryd.prog.underlying 3 = some (.int .i64) := Tryd.underlying3
 have u22 := run_underlying t22
 have u3 := run_underlying t3
 have h1 : ¬ ((n : Int) < 0) := by omega
 have h3 : wrap64 ((n : Int) - 0) = (n : Int) := by unfold wrap64; omega
 have h4 : (n : Int) > 0 := by omega
 have hold : (Builtin.firstCells i0.size 0 (.slice none 0 0)).run Tryd.prog w.drew = .ok (#[] : Array Value) w.drew := run_firstCells_none w.drew i0.size 0 0 0
 have hrz : ∀ ty, (Builtin.append_ #[26, 3] ty #[.slice none 0 0, .int .i64 (n : Int)]).run Tryd.prog w =
   .ok (.slice (some ⟨w.heap.size, 0, none⟩) n (grownCap w n 0 5)) (w.drew.alloc (.cells (#[] ++ Builtin.zeroCells (Value.cells (.int .u8 0)) n ++ Builtin.zeroCells (Value.cells (.int .u8 0)) (grownCap w n 0 5 - n)) 5)) := fun ty => by
  have h := Lib.run_append_grow_zeros w 26 3 ty 5 i0 (.int .u8 0) .i64 .i64 t22 t3 hi0 hz0 none 0 0 [] hold n (by omega) (by omega) (by omega) (by omega)
   (by rw [hb0]; omega)
   (by have := growslice_fits (show 0 < n from h0) (show n * i0.bytes ≤ 140737488355328 by rw [hb0]; omega); simpa using this)
  simpa using h
 have hGn : n ≤ grownCap w n 0 5 := grownCap_ge w _ _ _
 have hGm := grownCap_le_maxLen w n 0 5 (by unfold maxLen; omega)
 obtain ⟨G, hG⟩ : ∃ G, G = grownCap w n 0 5 := ⟨_, rfl⟩
 rw [← hG] at hrz hGn hGm
 have hG63 : G ≤ 9223372036854775807 := by unfold maxLen at hGm; omega
 clear hold hG
 go_enter Tryd.func61, Tryd.ntmps61
 go_wp2_with (at_builtin; refine Lib.wpList_append_run _ rfl _ _ _ _ rfl _ _ rfl rfl _ _ (hrz _) ?_)
 all_goals
  go_ret
  refine ⟨_, rfl, ?_, rfl, .inr ⟨w.heap.size, G, Builtin.zeroCells #[Value.int .u8 0] n ++ Builtin.zeroCells #[Value.int .u8 0] (G - n), rfl, Nat.le_refl _, ?_, Nat.zero_le _, hGm, ?_, ?_⟩⟩
  ·exact ((Below.refl _ _).alloc (Nat.le_refl _) _).drew
  ·show (w.heap.push _)[w.heap.size]? = _
   exact Array.getElem?_push_size
  ·have hz : ∀ k, (Builtin.zeroCells #[Value.int .u8 0] k).size = k := fun k => by simp [Builtin.zeroCells]
   rw [Array.size_append, hz, hz]; omega
  ·simp
theorem grow_c (w : World) (n : Nat) (hn : n ≤ 1000000000000) : Calls Tryd.prog 61 #[.slice none 0 0, .int .i64 n] w (Ret fun v w' => Ext w w' ∧ Own w' w.heap.size 5 v []) := by
 cases n with
 | zero => exact grow_0 w
 | succ n => exact grow_1 w (n + 1) (Nat.succ_pos _) hn
theorem cat_sl : (Tryd.prog.info? 26).map (fun i => (i.zero, i.size, i.bytes)) = some (some (.slice none 0 0), 1, 24) := by kernel_rfl
def SlS (w : World) (vs : List Value) (ls : List (List UInt8)) : Prop := vs.length = ls.length ∧ ∀ i, i < ls.length → ∃ B, Sl w B (vs.getD i undef) ((ls.getD i []).map bU)
theorem flat_take (ls : List (List UInt8)) (k : Nat) (h : k < ls.length) : (ls.take (k + 1)).flatten = (ls.take k).flatten ++ ls.getD k [] := by
 rw [List.take_succ_eq_append_getElem h, List.flatten_append, List.getD_eq_getElem?_getD, List.getElem?_eq_getElem h]; simp
theorem flat_le (ls : List (List UInt8)) (k : Nat) : (ls.take k).flatten.length ≤ ls.flatten.length := by
 have : ls.flatten = (ls.take k).flatten ++ (ls.drop k).flatten := by rw [← List.flatten_append, List.take_append_drop]
 rw [this, List.length_append]; omega
theorem vget {vs : List Value} {k n : Nat} (hn : vs.length = n) (h : k < n) : vs[k]? = some (vs.getD k undef) := by
 rw [List.getD_eq_getElem?_getD, List.getElem?_eq_getElem (by omega)]; rfl
set_option maxHeartbeats 800000 in
theorem concat_c (w : World) (B : Nat) (v : Value) (vs : List Value) (ls : List (List UInt8)) (hv : Sl w B v vs) (hvs : SlS w vs ls) (hl : ls.length ≤ 1000000) (hb : ls.flatten.length ≤ 1000000000) :
  Calls Tryd.prog 39 #[v] w (Ret fun v' w' => Ext w w' ∧ Own w' w.heap.size 5 v' (ls.flatten.map bU)) := by
 obtain ⟨i5, hi5, hz5, hs5, hb5⟩ := info_parts cat_u8
 obtain ⟨i26, hi26, hz26, hs26, hb26⟩ := info_parts cat_sl
 have hvl := hvs.1
 go_enter Tryd.func39, Tryd.ntmps39
 go_wp2_with (first
  | ((with_reducible refine g_at (d := 10) ?_); refine wpl_len rfl Tryd.underlying90 hv (by first | rw [List.length_map] | rfl) ?_; try (conv in (Act.put _ _ _) => simp only [Act.put, List.setIfInBounds_toArray, List.set_cons_succ, List.set_cons_zero]))
  | ((with_reducible refine g_at (d := 17) ?_); refine wpl_len rfl Tryd.underlying26 (by first | assumption | exact Own.sl (by assumption) | exact Sl.back (by first | assumption | exact Ext.drew' (by assumption) | exact Ext.undrew (by assumption)) (by first | assumption | exact Own.sl (by assumption) | exact Sl.back (by first | assumption | exact Ext.drew' (by assumption) | exact Ext.undrew (by assumption)) (by first | assumption | exact Own.sl (by assumption) | exact Sl.back (by first | assumption | exact Ext.drew' (by assumption) | exact Ext.undrew (by assumption)) (by first | assumption | exact Own.sl (by assumption) | exact Sl.back (by first | assumption | exact Ext.drew' (by assumption) | exact Ext.undrew (by assumption)) (by first | assumption | exact Own.sl (by assumption) | exact Sl.back (by first | assumption | exact Ext.drew' (by assumption) | exact Ext.undrew (by assumption)) (by first | assumption | exact Own.sl (by assumption) | exact Sl.back (by first | assumption | exact Ext.drew' (by assumption) | exact Ext.undrew (by assumption)) (by first | assumption | exact Own.sl (by assumption) | exact Sl.back (by first | assumption | exact Ext.drew' (by assumption) | exact Ext.undrew (by assumption)) (by first | assumption | exact Own.sl (by assumption))))))))) (by first | rw [List.length_map] | rfl) ?_; try (conv in (Act.put _ _ _) => simp only [Act.put, List.setIfInBounds_toArray, List.set_cons_succ, List.set_cons_zero]))
  | ((with_reducible refine g_at (d := 26) ?_); refine wpl_len rfl Tryd.underlying90 (by first | assumption | exact Own.sl (by assumption) | exact Sl.back (by first | assumption | exact Ext.drew' (by assumption) | exact Ext.undrew (by assumption)) (by first | assumption | exact Own.sl (by assumption) | exact Sl.back (by first | assumption | exact Ext.drew' (by assumption) | exact Ext.undrew (by assumption)) (by first | assumption | exact Own.sl (by assumption) | exact Sl.back (by first | assumption | exact Ext.drew' (by assumption) | exact Ext.undrew (by assumption)) (by first | assumption | exact Own.sl (by assumption) | exact Sl.back (by first | assumption | exact Ext.drew' (by assumption) | exact Ext.undrew (by assumption)) (by first | assumption | exact Own.sl (by assumption) | exact Sl.back (by first | assumption | exact Ext.drew' (by assumption) | exact Ext.undrew (by assumption)) (by first | assumption | exact Own.sl (by assumption) | exact Sl.back (by first | assumption | exact Ext.drew' (by assumption) | exact Ext.undrew (by assumption)) (by first | assumption | exact Own.sl (by assumption) | exact Sl.back (by first | assumption | exact Ext.drew' (by assumption) | exact Ext.undrew (by assumption)) (by first | assumption | exact Own.sl (by assumption))))))))) (by first | rw [List.length_map] | rfl) ?_; try (conv in (Act.put _ _ _) => simp only [Act.put, List.setIfInBounds_toArray, List.set_cons_succ, List.set_cons_zero])))
 rw [hvl]
 go_loopw [3, 11] (fun s i wr => ∃ k : Nat, k ≤ ls.length ∧ i = .int .i64 k ∧ s = .int .i64 (((ls.take k).flatten.length : Nat) : Int) ∧ Ext w wr) (fun _ i _ => ls.length - (RowKit.intOf i).toNat)
 case atStart => exact ⟨0, Nat.zero_le _, rfl, by simp, Below.refl _ _⟩
 case round =>
  obtain ⟨k, hk, rfl, rfl, hx⟩ := hrel
  by_cases hlt : k < ls.length
  ·obtain ⟨Bi, hsi⟩ := hvs.2 k hlt
   have hf := flat_take ls k hlt
   have hle := flat_le ls (k + 1)
   generalize ls.getD k [] = x at *
   rw [hf, List.length_append] at hle
   have hg : (ls.take (k + 1)).flatten.length = (ls.take k).flatten.length + x.length := by rw [hf, List.length_append]
   have HF := Lib.hid hg
   clear hf hg
   generalize (ls.take k).flatten.length = S at *
   have hw : wrap64 ((S : Int) + (x.length : Int)) = (S : Int) + (x.length : Int) := by unfold wrap64; omega
   have hneg : ¬ ((S : Int) + (x.length : Int) < 0) := Int.not_lt.2 (Int.add_nonneg (Int.natCast_nonneg _) (Int.natCast_nonneg _))
   go_wp2_with (first
    | ((with_reducible refine g_at (d := 13) ?_); refine wpl_index rfl rfl Tryd.underlying90 hi26 hs26 (hv.ext hx) rfl (vget hvl hlt) ?_; intro ad13 hb13 hc13; try (conv in (Act.put _ _ _) => simp only [Act.put, List.setIfInBounds_toArray, List.set_cons_succ, List.set_cons_zero]))
    | ((with_reducible refine g_at (d := 14) ?_); refine wpl_load1 rfl Tryd.underlying26 rfl hc13 ?_; try (conv in (Act.put _ _ _) => simp only [Act.put, List.setIfInBounds_toArray, List.set_cons_succ, List.set_cons_zero]))
    | ((with_reducible refine g_at (d := 17) ?_); refine wpl_len rfl Tryd.underlying26 (hsi.ext hx) (by first | rw [List.length_map] | rfl) ?_; try (conv in (Act.put _ _ _) => simp only [Act.put, List.setIfInBounds_toArray, List.set_cons_succ, List.set_cons_zero]))
    | ((with_reducible refine g_at (d := 10) ?_); refine wpl_len rfl Tryd.underlying90 (by first | assumption | exact Own.sl (by assumption) | exact Sl.back (by first | assumption | exact Ext.drew' (by assumption) | exact Ext.undrew (by assumption)) (by first | assumption | exact Own.sl (by assumption) | exact Sl.back (by first | assumption | exact Ext.drew' (by assumption) | exact Ext.undrew (by assumption)) (by first | assumption | exact Own.sl (by assumption) | exact Sl.back (by first | assumption | exact Ext.drew' (by assumption) | exact Ext.undrew (by assumption)) (by first | assumption | exact Own.sl (by assumption) | exact Sl.back (by first | assumption | exact Ext.drew' (by assumption) | exact Ext.undrew (by assumption)) (by first | assumption | exact Own.sl (by assumption) | exact Sl.back (by first | assumption | exact Ext.drew' (by assumption) | exact Ext.undrew (by assumption)) (by first | assumption | exact Own.sl (by assumption) | exact Sl.back (by first | assumption | exact Ext.drew' (by assumption) | exact Ext.undrew (by assumption)) (by first | assumption | exact Own.sl (by assumption) | exact Sl.back (by first | assumption | exact Ext.drew' (by assumption) | exact Ext.undrew (by assumption)) (by first | assumption | exact Own.sl (by assumption))))))))) (by first | rw [List.length_map] | rfl) ?_; try (conv in (Act.put _ _ _) => simp only [Act.put, List.setIfInBounds_toArray, List.set_cons_succ, List.set_cons_zero]))
    | ((with_reducible refine g_at (d := 26) ?_); refine wpl_len rfl Tryd.underlying90 (by first | assumption | exact Own.sl (by assumption) | exact Sl.back (by first | assumption | exact Ext.drew' (by assumption) | exact Ext.undrew (by assumption)) (by first | assumption | exact Own.sl (by assumption) | exact Sl.back (by first | assumption | exact Ext.drew' (by assumption) | exact Ext.undrew (by assumption)) (by first | assumption | exact Own.sl (by assumption) | exact Sl.back (by first | assumption | exact Ext.drew' (by assumption) | exact Ext.undrew (by assumption)) (by first | assumption | exact Own.sl (by assumption) | exact Sl.back (by first | assumption | exact Ext.drew' (by assumption) | exact Ext.undrew (by assumption)) (by first | assumption | exact Own.sl (by assumption) | exact Sl.back (by first | assumption | exact Ext.drew' (by assumption) | exact Ext.undrew (by assumption)) (by first | assumption | exact Own.sl (by assumption) | exact Sl.back (by first | assumption | exact Ext.drew' (by assumption) | exact Ext.undrew (by assumption)) (by first | assumption | exact Own.sl (by assumption) | exact Sl.back (by first | assumption | exact Ext.drew' (by assumption) | exact Ext.undrew (by assumption)) (by first | assumption | exact Own.sl (by assumption))))))))) (by first | rw [List.length_map] | rfl) ?_; try (conv in (Act.put _ _ _) => simp only [Act.put, List.setIfInBounds_toArray, List.set_cons_succ, List.set_cons_zero])))
   go_roundw
   case rel => exact ⟨k + 1, by omega, by go_num, by rw [HF.out]; go_num, hx⟩
   case measure => simp [RowKit.intOf]; omega
  ·obtain rfl : k = ls.length := by omega
   rw [List.take_length]
   have HB := Lib.hid hb
   generalize hS : ls.flatten.length = S at *
   have HS := Lib.hid hS
   clear hS
   go_wp2_with (first
    | ((with_reducible refine g_at (d := 24) ?_); refine wpl_call Tryd.func61 (by kernel_rfl) (by kernel_rfl) rfl (grow_c wr S (Nat.le_trans HB.out (by decide))) ?_; rintro v24 w24 ⟨hx24, h24⟩; try (conv in (Act.put _ _ _) => simp only [Act.put, List.setIfInBounds_toArray, List.set_cons_succ, List.set_cons_zero]))
    | ((with_reducible refine g_at (d := 26) ?_); refine wpl_len rfl Tryd.underlying90 (hv.ext (hx.tr hx24)) (by first | rw [List.length_map] | rfl) ?_; try (conv in (Act.put _ _ _) => simp only [Act.put, List.setIfInBounds_toArray, List.set_cons_succ, List.set_cons_zero]))
    | ((with_reducible refine g_at (d := 10) ?_); refine wpl_len rfl Tryd.underlying90 (by first | assumption | exact Own.sl (by assumption) | exact Sl.back (by first | assumption | exact Ext.drew' (by assumption) | exact Ext.undrew (by assumption)) (by first | assumption | exact Own.sl (by assumption) | exact Sl.back (by first | assumption | exact Ext.drew' (by assumption) | exact Ext.undrew (by assumption)) (by first | assumption | exact Own.sl (by assumption) | exact Sl.back (by first | assumption | exact Ext.drew' (by assumption) | exact Ext.undrew (by assumption)) (by first | assumption | exact Own.sl (by assumption) | exact Sl.back (by first | assumption | exact Ext.drew' (by assumption) | exact Ext.undrew (by assumption)) (by first | assumption | exact Own.sl (by assumption) | exact Sl.back (by first | assumption | exact Ext.drew' (by assumption) | exact Ext.undrew (by assumption)) (by first | assumption | exact Own.sl (by assumption) | exact Sl.back (by first | assumption | exact Ext.drew' (by assumption) | exact Ext.undrew (by assumption)) (by first | assumption | exact Own.sl (by assumption) | exact Sl.back (by first | assumption | exact Ext.drew' (by assumption) | exact Ext.undrew (by assumption)) (by first | assumption | exact Own.sl (by assumption))))))))) (by first | rw [List.length_map] | rfl) ?_; try (conv in (Act.put _ _ _) => simp only [Act.put, List.setIfInBounds_toArray, List.set_cons_succ, List.set_cons_zero]))
    | ((with_reducible refine g_at (d := 17) ?_); refine wpl_len rfl Tryd.underlying26 (by first | assumption | exact Own.sl (by assumption) | exact Sl.back (by first | assumption | exact Ext.drew' (by assumption) | exact Ext.undrew (by assumption)) (by first | assumption | exact Own.sl (by assumption) | exact Sl.back (by first | assumption | exact Ext.drew' (by assumption) | exact Ext.undrew (by assumption)) (by first | assumption | exact Own.sl (by assumption) | exact Sl.back (by first | assumption | exact Ext.drew' (by assumption) | exact Ext.undrew (by assumption)) (by first | assumption | exact Own.sl (by assumption) | exact Sl.back (by first | assumption | exact Ext.drew' (by assumption) | exact Ext.undrew (by assumption)) (by first | assumption | exact Own.sl (by assumption) | exact Sl.back (by first | assumption | exact Ext.drew' (by assumption) | exact Ext.undrew (by assumption)) (by first | assumption | exact Own.sl (by assumption) | exact Sl.back (by first | assumption | exact Ext.drew' (by assumption) | exact Ext.undrew (by assumption)) (by first | assumption | exact Own.sl (by assumption) | exact Sl.back (by first | assumption | exact Ext.drew' (by assumption) | exact Ext.undrew (by assumption)) (by first | assumption | exact Own.sl (by assumption))))))))) (by first | rw [List.length_map] | rfl) ?_; try (conv in (Act.put _ _ _) => simp only [Act.put, List.setIfInBounds_toArray, List.set_cons_succ, List.set_cons_zero])))
   rw [hvl]
   have hxx := hx.tr hx24
   have ho0 := h24.down hx.size
   clear hx hx24 h24
   go_loopw [6, 27] (fun o i wq => ∃ k : Nat, k ≤ ls.length ∧ i = .int .i64 k ∧ Own wq w.heap.size 5 o ((ls.take k).flatten.map bU) ∧ Ext w wq) (fun _ i _ => ls.length - (RowKit.intOf i).toNat)
   case atStart => exact ⟨0, Nat.zero_le _, rfl, by simpa using ho0, hxx⟩
   case round =>
    obtain ⟨k, hk, rfl, ho, hx⟩ := hrel
    by_cases hlt : k < ls.length
    ·obtain ⟨Bi, hsi⟩ := hvs.2 k hlt
     have hf := flat_take ls k hlt
     have hle := flat_le ls (k + 1)
     generalize ls.getD k [] = x at *
     rw [hf, List.length_append] at hle
     have HF := Lib.hid hf
     clear hf
     generalize (ls.take k).flatten = X at *
     have hb9 : (List.map bU X).length + (List.map bU x).length ≤ 1000000000 := by rw [List.length_map, List.length_map]; have h1 := HS.out; have h2 := HB.out; omega
     go_wp2_with (first
      | ((with_reducible refine g_at (d := 29) ?_); refine wpl_index rfl rfl Tryd.underlying90 hi26 hs26 (hv.ext hx) rfl (vget hvl hlt) ?_; intro ad29 hb29 hc29; try (conv in (Act.put _ _ _) => simp only [Act.put, List.setIfInBounds_toArray, List.set_cons_succ, List.set_cons_zero]))
      | ((with_reducible refine g_at (d := 30) ?_); refine wpl_load1 rfl Tryd.underlying26 rfl hc29 ?_; try (conv in (Act.put _ _ _) => simp only [Act.put, List.setIfInBounds_toArray, List.set_cons_succ, List.set_cons_zero]))
      | ((with_reducible refine g_at (d := 33) ?_); refine wpl_append (v := u6) rfl rfl Tryd.underlying26 hi5 hz5 hs5 hb5 rfl ho (hsi.ext hx) (bU_one x) (by first | omega | (simp <;> omega)) (by omega) hx.size ?_; intro v33 w33 h33 hg33 ha33 hx33; try (conv in (Act.put _ _ _) => simp only [Act.put, List.setIfInBounds_toArray, List.set_cons_succ, List.set_cons_zero]))
      | ((with_reducible refine g_at (d := 10) ?_); refine wpl_len rfl Tryd.underlying90 (by first | assumption | exact Own.sl (by assumption) | exact Sl.back (by first | assumption | exact Ext.drew' (by assumption) | exact Ext.undrew (by assumption)) (by first | assumption | exact Own.sl (by assumption) | exact Sl.back (by first | assumption | exact Ext.drew' (by assumption) | exact Ext.undrew (by assumption)) (by first | assumption | exact Own.sl (by assumption) | exact Sl.back (by first | assumption | exact Ext.drew' (by assumption) | exact Ext.undrew (by assumption)) (by first | assumption | exact Own.sl (by assumption) | exact Sl.back (by first | assumption | exact Ext.drew' (by assumption) | exact Ext.undrew (by assumption)) (by first | assumption | exact Own.sl (by assumption) | exact Sl.back (by first | assumption | exact Ext.drew' (by assumption) | exact Ext.undrew (by assumption)) (by first | assumption | exact Own.sl (by assumption) | exact Sl.back (by first | assumption | exact Ext.drew' (by assumption) | exact Ext.undrew (by assumption)) (by first | assumption | exact Own.sl (by assumption) | exact Sl.back (by first | assumption | exact Ext.drew' (by assumption) | exact Ext.undrew (by assumption)) (by first | assumption | exact Own.sl (by assumption))))))))) (by first | rw [List.length_map] | rfl) ?_; try (conv in (Act.put _ _ _) => simp only [Act.put, List.setIfInBounds_toArray, List.set_cons_succ, List.set_cons_zero]))
      | ((with_reducible refine g_at (d := 17) ?_); refine wpl_len rfl Tryd.underlying26 (by first | assumption | exact Own.sl (by assumption) | exact Sl.back (by first | assumption | exact Ext.drew' (by assumption) | exact Ext.undrew (by assumption)) (by first | assumption | exact Own.sl (by assumption) | exact Sl.back (by first | assumption | exact Ext.drew' (by assumption) | exact Ext.undrew (by assumption)) (by first | assumption | exact Own.sl (by assumption) | exact Sl.back (by first | assumption | exact Ext.drew' (by assumption) | exact Ext.undrew (by assumption)) (by first | assumption | exact Own.sl (by assumption) | exact Sl.back (by first | assumption | exact Ext.drew' (by assumption) | exact Ext.undrew (by assumption)) (by first | assumption | exact Own.sl (by assumption) | exact Sl.back (by first | assumption | exact Ext.drew' (by assumption) | exact Ext.undrew (by assumption)) (by first | assumption | exact Own.sl (by assumption) | exact Sl.back (by first | assumption | exact Ext.drew' (by assumption) | exact Ext.undrew (by assumption)) (by first | assumption | exact Own.sl (by assumption) | exact Sl.back (by first | assumption | exact Ext.drew' (by assumption) | exact Ext.undrew (by assumption)) (by first | assumption | exact Own.sl (by assumption))))))))) (by first | rw [List.length_map] | rfl) ?_; try (conv in (Act.put _ _ _) => simp only [Act.put, List.setIfInBounds_toArray, List.set_cons_succ, List.set_cons_zero]))
      | ((with_reducible refine g_at (d := 26) ?_); refine wpl_len rfl Tryd.underlying90 (by first | assumption | exact Own.sl (by assumption) | exact Sl.back (by first | assumption | exact Ext.drew' (by assumption) | exact Ext.undrew (by assumption)) (by first | assumption | exact Own.sl (by assumption) | exact Sl.back (by first | assumption | exact Ext.drew' (by assumption) | exact Ext.undrew (by assumption)) (by first | assumption | exact Own.sl (by assumption) | exact Sl.back (by first | assumption | exact Ext.drew' (by assumption) | exact Ext.undrew (by assumption)) (by first | assumption | exact Own.sl (by assumption) | exact Sl.back (by first | assumption | exact Ext.drew' (by assumption) | exact Ext.undrew (by assumption)) (by first | assumption | exact Own.sl (by assumption) | exact Sl.back (by first | assumption | exact Ext.drew' (by assumption) | exact Ext.undrew (by assumption)) (by first | assumption | exact Own.sl (by assumption) | exact Sl.back (by first | assumption | exact Ext.drew' (by assumption) | exact Ext.undrew (by assumption)) (by first | assumption | exact Own.sl (by assumption) | exact Sl.back (by first | assumption | exact Ext.drew' (by assumption) | exact Ext.undrew (by assumption)) (by first | assumption | exact Own.sl (by assumption))))))))) (by first | rw [List.length_map] | rfl) ?_; try (conv in (Act.put _ _ _) => simp only [Act.put, List.setIfInBounds_toArray, List.set_cons_succ, List.set_cons_zero])))
     go_roundw
     case rel => exact ⟨k + 1, by omega, by go_num, by rw [HF.out, List.map_append]; exact h33, hx.trans hx33⟩
     case measure => simp [RowKit.intOf]; omega
    ·obtain rfl : k = ls.length := by omega
     rw [List.take_length] at ho
     go_wp2
     go_ret
     exact ⟨_, rfl, hx, ho⟩
end Go.Proofs.YthichmclbiggmaaDoor
end
section
namespace Go.Proofs.YthichmclbiggmaaDoor
open Go.RowKit Go.Ch Go.Sx
theorem slr_sl {w : World} {v : Value} {n : Nat} {vs : List Value} (h : SlR w v n 1 vs) : Sl w w.heap.size v vs := by
 obtain ⟨hl, A, c, rfl, h1, h2, h3, h4⟩ := h
 have hn : vs.length = n := by omega
 subst hn
 refine ⟨Nat.le_refl _, A, c, rfl, h1, h2, h3, fun ad had j u hu => ⟨?_, h4 ad had j u hu⟩⟩
 have := World.block_lt_of_cell? _ _ (h4 ad had j u hu)
 rwa [block_add] at this
def aLs (H : Hp) : List Cl → Option (List (List UInt8))
 | [] => some []
 | c :: cs => (match aB H (.c c), aLs H cs with | some l, some ls => some (l :: ls) | _, _ => none)
theorem aLs_ok {ρ : Pls} {w : World} {H : Hp} (hp : HpR ρ w H) : ∀ {cs : List Cl} {ls : List (List UInt8)} {vs : List Value}, aLs H cs = some ls → F2 (clR ρ) cs vs → SlS w vs ls
 | [], ls, vs, h, hv => by
  obtain rfl := F2.unnil hv
  simp only [aLs, Option.some.injEq] at h
  subst h
  exact ⟨rfl, fun i hi => by simp at hi⟩
 | c :: cs, ls, vs, h, hv => by
  obtain ⟨v, vs', rfl, hc, hvs⟩ := F2.uncons hv
  simp only [aLs] at h
  split at h
  ·rename_i l ls' hl hls
   injection h with h; subst h
   obtain ⟨h1, h2⟩ := aLs_ok hp hls hvs
   obtain ⟨p, hI⟩ := aB_ok hp hl hc 5
   have hs := hI.sl (fun _ _ h => csR_b.1 h) (by simp)
   refine ⟨by simp [h1], fun i hi => ?_⟩
   cases i with
   | zero => exact ⟨_, hs⟩
   | succ i => exact h2 i (by simpa using hi)
  ·cases h
def cat_ct : Ct := fun args H => match args with
 | [.c x] => (match vcs H x with
  | some (sz, _, .c cells) => (match Nat.beq sz 1, aLs H cells with
   | true, some ls => some ([ls.length ≤ 1000000, ls.flatten.length ≤ 1000000000], .c (.wh H.length), [⟨.row, 5, 1, ls.flatten.length, .b ls.flatten⟩])
   | _, _ => none)
  | _ => none)
 | _ => none
theorem cat_h : FnOk Tryd.prog Tr 39 cat_ct := by
 refine ⟨fun args H g av objs hF hg ρ w vals hG hp ha => ?_, _, Tryd.func39, by kernel_rfl, by kernel_rfl⟩
 unfold cat_ct at hF
 split at hF
 ·rename_i x
  split at hF
  ·rename_i sz n cells hx
   split at hF
   ·rename_i ls hsz hls
    simp only [Option.some.injEq, Prod.mk.injEq] at hF
    obtain ⟨rfl, rfl, rfl⟩ := hF
    obtain ⟨v, vals, rfl, k, ha⟩ := F2.inv ha
    obtain rfl := F2.inv0 ha
    have e1 := Nat.eq_of_beq_eq_true hsz
    subst e1
    obtain ⟨vs, hc, hS⟩ := vcs_ok hp hx k
    obtain ⟨g1, g2⟩ : ls.length ≤ 1000000 ∧ ls.flatten.length ≤ 1000000000 := by simpa [allP] using hg
    exact calls_mono (concat_c w _ v vs ls (slr_sl hS) (aLs_ok hp hls hc) g1 g2) fun v w' ⟨hx, hv⟩ => ⟨hx, left_row hv (fun _ => csR_b.2 rfl) (by rw [List.length_map])⟩
   ·cases hF
  ·cases hF
 ·cases hF
end Go.Proofs.YthichmclbiggmaaDoor
end
section
namespace Go.Proofs.YthichmclbiggmaaDoor
open Go.RowKit Go.Ch Go.Sx
def tabL_gs : List (TypeId × Ti) := [(3, ⟨.int .i64, 1, 8, true, some [.int .i64]⟩),
 (5, ⟨.int .u8, 1, 1, true, some [.int .u8]⟩),
 (26, ⟨.sl 5, 1, 24, false, some [.nils]⟩),
 (31, ⟨.ifc, 1, 16, true, some [.ifc]⟩),
 (34, ⟨.int .i64, 1, 8, true, some [.int .i64]⟩),
 (55, ⟨.int .u32, 1, 4, true, some [.int .u32]⟩),
 (63, ⟨.arr 8 55, 8, 32, true, some [.int .u32, .int .u32, .int .u32, .int .u32, .int .u32, .int .u32, .int .u32, .int .u32]⟩),
 (88, ⟨.arr 64 5, 64, 64, true, some [.int .u8, .int .u8, .int .u8, .int .u8, .int .u8, .int .u8, .int .u8, .int .u8, .int .u8, .int .u8, .int .u8, .int .u8, .int .u8, .int .u8, .int .u8, .int .u8, .int .u8, .int .u8, .int .u8, .int .u8, .int .u8, .int .u8, .int .u8, .int .u8, .int .u8, .int .u8, .int .u8, .int .u8, .int .u8, .int .u8, .int .u8, .int .u8, .int .u8, .int .u8, .int .u8, .int .u8, .int .u8, .int .u8, .int .u8, .int .u8, .int .u8, .int .u8, .int .u8, .int .u8, .int .u8, .int .u8, .int .u8, .int .u8, .int .u8, .int .u8, .int .u8, .int .u8, .int .u8, .int .u8, .int .u8, .int .u8, .int .u8, .int .u8, .int .u8, .int .u8, .int .u8, .int .u8, .int .u8, .int .u8]⟩),
 (98, ⟨.int .u64, 1, 8, true, some [.int .u64]⟩),
 (112, ⟨.arr 64 55, 64, 256, true, some [.int .u32, .int .u32, .int .u32, .int .u32, .int .u32, .int .u32, .int .u32, .int .u32, .int .u32, .int .u32, .int .u32, .int .u32, .int .u32, .int .u32, .int .u32, .int .u32, .int .u32, .int .u32, .int .u32, .int .u32, .int .u32, .int .u32, .int .u32, .int .u32, .int .u32, .int .u32, .int .u32, .int .u32, .int .u32, .int .u32, .int .u32, .int .u32, .int .u32, .int .u32, .int .u32, .int .u32, .int .u32, .int .u32, .int .u32, .int .u32, .int .u32, .int .u32, .int .u32, .int .u32, .int .u32, .int .u32, .int .u32, .int .u32, .int .u32, .int .u32, .int .u32, .int .u32, .int .u32, .int .u32, .int .u32, .int .u32, .int .u32, .int .u32, .int .u32, .int .u32, .int .u32, .int .u32, .int .u32, .int .u32]⟩)]
def tab_gs : Tab := fun t => (tabL_gs).lookup t
theorem tabE_gs : (tabL_gs.map fun p => tiOf Tryd.prog p.1) = tabL_gs.map fun p => some p.2 := by kernel_rfl
theorem tabO_gs : TabOk Tryd.prog tab_gs := tab_of tabE_gs
def grot (n : Nat) (a0 : UInt32) (a1 : Int) : Option (UInt32) :=
 gd (0 ≤ ((((UInt64.ofInt a1) &&& (31 : UInt64)).toNat : Nat) : Int)) <|
 gd (0 ≤ ((((32 : UInt64) - ((UInt64.ofInt a1) &&& (31 : UInt64))).toNat : Nat) : Int)) <|
 some ((shl32 a0 ((((UInt64.ofInt a1) &&& (31 : UInt64)).toNat : Nat) : Int)) ||| (shr32 a0 ((((32 : UInt64) - ((UInt64.ofInt a1) &&& (31 : UInt64))).toNat : Nat) : Int)))
def groll (n : Nat) (a0 : UInt32) (a1 : Int) : Option (UInt32) :=
 gd (okI .i64 (-a1)) <|
 (grot n a0 (-a1)).bind fun r8 =>
 some r8
def gsched_l2 (n : Nat) : Nat → List UInt32 → Int → Option (List UInt32)
 | 0, _, _ => none
 | fu_l2 + 1, w3_3, i6_1 =>
  bif (decide (i6_1 < (64 : Int))) then
   gd (okI .i64 (i6_1 - 15)) <|
   gd (0 ≤ (i6_1 - 15)) <|
   gd ((i6_1 - 15) < (64 : Int)) <|
   gd (okI .i64 (i6_1 - 2)) <|
   gd (0 ≤ (i6_1 - 2)) <|
   gd ((i6_1 - 2) < (64 : Int)) <|
   gd (okI .i64 (i6_1 - 16)) <|
   gd (0 ≤ (i6_1 - 16)) <|
   gd ((i6_1 - 16) < (64 : Int)) <|
   (groll n (w3_3.getD ((i6_1 - 15).toNat) 0) 7).bind fun r44_3 =>
   (groll n (w3_3.getD ((i6_1 - 15).toNat) 0) 18).bind fun r46_3 =>
   gd (0 ≤ (3 : Int)) <|
   gd (okI .i64 (i6_1 - 7)) <|
   gd (0 ≤ (i6_1 - 7)) <|
   gd ((i6_1 - 7) < (64 : Int)) <|
   (groll n (w3_3.getD ((i6_1 - 2).toNat) 0) 17).bind fun r58_3 =>
   (groll n (w3_3.getD ((i6_1 - 2).toNat) 0) 19).bind fun r60_3 =>
   gd (0 ≤ (10 : Int)) <|
   gd (0 ≤ i6_1) <|
   gd (i6_1 < (64 : Int)) <|
   gd (okI .i64 (i6_1 + 1)) <|
   (gsched_l2 n fu_l2) (w3_3.set i6_1.toNat ((((w3_3.getD ((i6_1 - 16).toNat) 0) + ((r44_3 ^^^ r46_3) ^^^ (shr32 (w3_3.getD ((i6_1 - 15).toNat) 0) 3))) + (w3_3.getD ((i6_1 - 7).toNat) 0)) + ((r58_3 ^^^ r60_3) ^^^ (shr32 (w3_3.getD ((i6_1 - 2).toNat) 0) 10)))) (i6_1 + 1)
  else
   some w3_3
def gsched_l1 (n : Nat) (a0 : List UInt8) : Nat → List UInt32 → Int → Option (List UInt32)
 | 0, _, _ => none
 | fu_l1 + 1, w3_2, i10_1 =>
 bif (decide (i10_1 < (64 : Int))) then
 gd (0 ≤ i10_1) <|
 gd (i10_1 < (64 : Int)) <|
 gd ((4 : Int) ≠ 0) <|
 gd (okI .i64 (Int.tdiv i10_1 4)) <|
 gd ((4 : Int) ≠ 0) <|
 gd (okI .i64 (Int.tdiv i10_1 4)) <|
 gd (0 ≤ (Int.tdiv i10_1 4)) <|
 gd ((Int.tdiv i10_1 4) < (64 : Int)) <|
 gd (0 ≤ (8 : Int)) <|
 gd (0 ≤ (Int.tdiv i10_1 4)) <|
 gd ((Int.tdiv i10_1 4) < (64 : Int)) <|
 gd (okI .i64 (i10_1 + 1)) <|
 (gsched_l1 n a0 fu_l1) (w3_2.set ((Int.tdiv i10_1 4).toNat) ((shl32 (w3_2.getD ((Int.tdiv i10_1 4).toNat) 0) 8) ||| ((a0.getD i10_1.toNat 0).toUInt32))) (i10_1 + 1)
 else
 gsched_l2 n n w3_2 16
def gsched (n : Nat) (a0 : List UInt8) : Option (List UInt32) :=
 gsched_l1 n a0 n (List.replicate 64 0) 0
def ground (n : Nat) (a0 : List UInt32) (a1 : UInt32) : Option (List UInt32) :=
 gd (0 ≤ (0 : Int)) <|
 gd ((0 : Int) < (8 : Int)) <|
 gd (0 ≤ (4 : Int)) <|
 gd ((4 : Int) < (8 : Int)) <|
 gd (0 ≤ (7 : Int)) <|
 gd ((7 : Int) < (8 : Int)) <|
 (groll n (a0.getD 4 0) 6).bind fun r16 =>
 (groll n (a0.getD 4 0) 11).bind fun r18 =>
 (groll n (a0.getD 4 0) 25).bind fun r21 =>
 gd (0 ≤ (5 : Int)) <|
 gd ((5 : Int) < (8 : Int)) <|
 gd (0 ≤ (6 : Int)) <|
 gd ((6 : Int) < (8 : Int)) <|
 (groll n (a0.getD 0 0) 2).bind fun r38 =>
 (groll n (a0.getD 0 0) 13).bind fun r40 =>
 (groll n (a0.getD 0 0) 22).bind fun r43 =>
 gd (0 ≤ (1 : Int)) <|
 gd ((1 : Int) < (8 : Int)) <|
 gd (0 ≤ (2 : Int)) <|
 gd ((2 : Int) < (8 : Int)) <|
 gd (0 ≤ (1 : Int)) <|
 gd ((1 : Int) < (8 : Int)) <|
 gd (0 ≤ (2 : Int)) <|
 gd ((2 : Int) < (8 : Int)) <|
 gd (0 ≤ (1 : Int)) <|
 gd ((1 : Int) < (8 : Int)) <|
 gd (0 ≤ (2 : Int)) <|
 gd ((2 : Int) < (8 : Int)) <|
 gd (0 ≤ (3 : Int)) <|
 gd ((3 : Int) < (8 : Int)) <|
 gd (0 ≤ (5 : Int)) <|
 gd ((5 : Int) < (8 : Int)) <|
 gd (0 ≤ (6 : Int)) <|
 gd ((6 : Int) < (8 : Int)) <|
 some [(((((a0.getD 7 0) + ((r16 ^^^ r18) ^^^ r21)) + (((a0.getD 4 0) &&& (a0.getD 5 0)) ^^^ ((~~~(a0.getD 4 0)) &&& (a0.getD 6 0)))) + a1) + (((r38 ^^^ r40) ^^^ r43) + ((((a0.getD 0 0) &&& (a0.getD 1 0)) ^^^ ((a0.getD 0 0) &&& (a0.getD 2 0))) ^^^ ((a0.getD 1 0) &&& (a0.getD 2 0))))), (a0.getD 0 0), (a0.getD 1 0), (a0.getD 2 0), ((a0.getD 3 0) + ((((a0.getD 7 0) + ((r16 ^^^ r18) ^^^ r21)) + (((a0.getD 4 0) &&& (a0.getD 5 0)) ^^^ ((~~~(a0.getD 4 0)) &&& (a0.getD 6 0)))) + a1)), (a0.getD 4 0), (a0.getD 5 0), (a0.getD 6 0)]
def gpress_l2 (n : Nat) (a0 : List UInt32) : Nat → List UInt32 → Int → Option (List UInt32)
 | 0, _, _ => none
 | fu_l2 + 1, w6_3, i25_1 =>
 bif (decide (i25_1 < (8 : Int))) then
 gd (0 ≤ i25_1) <|
 gd (i25_1 < (8 : Int)) <|
 gd (0 ≤ i25_1) <|
 gd (i25_1 < (8 : Int)) <|
 gd (0 ≤ i25_1) <|
 gd (i25_1 < (8 : Int)) <|
 gd (okI .i64 (i25_1 + 1)) <|
 (gpress_l2 n a0 fu_l2) (w6_3.set i25_1.toNat ((w6_3.getD i25_1.toNat 0) + (a0.getD i25_1.toNat 0))) (i25_1 + 1)
 else
 some w6_3
def gpress_l1 (n : Nat) (a0 : List UInt32) (r10 : List UInt32) : Nat → List UInt32 → Int → Option (List UInt32)
 | 0, _, _ => none
 | fu_l1 + 1, w6_2, i12_1 =>
  bif (decide (i12_1 < (64 : Int))) then
   gd (0 ≤ i12_1) <|
   gd (i12_1 < (64 : Int)) <|
   gd (0 ≤ i12_1) <|
   gd (i12_1 < (64 : Int)) <|
   (ground n w6_2 ((r10.getD i12_1.toNat 0) + (consts.getD i12_1.toNat 0))).bind fun r23_2 =>
   gd (okI .i64 (i12_1 + 1)) <|
   (gpress_l1 n a0 r10 fu_l1) r23_2 (i12_1 + 1)
  else
   gpress_l2 n a0 n w6_2 0
def gpress (n : Nat) (a0 : List UInt32) (a1 : List UInt8) : Option (List UInt32) :=
 (gsched n a1).bind fun r10 =>
 gpress_l1 n a0 r10 n a0 0
def gtail_l1 (n : Nat) (a0 : Int) : Nat → List UInt8 → Int → Option (List UInt8 × Option Int)
 | 0, _, _ => none
 | fu_l1 + 1, l4_6, i5_1 =>
 bif (decide ((0 : Int) ≤ i5_1)) then
 gd (okI .i64 (8 * a0)) <|
 gd (0 ≤ i5_1) <|
 gd (i5_1 ≤ (((IntKind.i64).bits : Nat) : Int)) <|
 gd (rmB (l4_6.length + 1) 1) <|
 gd (okI .i64 (i5_1 - 8)) <|
 (gtail_l1 n a0 fu_l1) (l4_6 ++ [(UInt8.ofInt ((8 * a0) / 2 ^ i5_1.toNat))]) (i5_1 - 8)
 else
 some (l4_6, none)
def gtail_j1 (n : Nat) (a0 : Int) (l4_5 : List UInt8) : Option (List UInt8 × Option Int) :=
 gtail_l1 n a0 n l4_5 56
def gtail_l2 (n : Nat) (a0 : Int) : Nat → List UInt8 → Option (List UInt8 × Option Int)
 | 0, _ => none
 | fu_l2 + 1, l4_7 =>
 gd (okI .i64 (a0 + ((l4_7.length : Nat) : Int))) <|
 gd (okI .i64 ((a0 + ((l4_7.length : Nat) : Int)) + 8)) <|
 gd ((64 : Int) ≠ 0) <|
 bif ((Int.tmod ((a0 + ((l4_7.length : Nat) : Int)) + 8) 64) != 0) then
 gd (rmB (l4_7.length + 1) 1) <|
 (gtail_l2 n a0 fu_l2) (l4_7 ++ [0])
 else
 gtail_j1 n a0 l4_7
def gtail (n : Nat) (a0 : Int) : Option (List UInt8 × Option Int) :=
 bif (decide (a0 < (0 : Int))) then
 some ([], (some 1))
 else
 bif (decide ((281474976710656 : Int) < a0)) then
 some ([], (some 1))
 else
 gtail_l2 n a0 n [128]
def gbeg (n : Nat) : Option (Unit) :=
 some ()
def gsum_l2 (n : Nat) (w6_2 : List UInt32) : Nat → List UInt8 → Int → Option (List UInt8)
 | 0, _, _ => none
 | fu_l2 + 1, l8_2, i39_2 =>
 bif (decide (i39_2 < (8 : Int))) then
 gd (0 ≤ i39_2) <|
 gd (i39_2 < (8 : Int)) <|
 gd (0 ≤ (24 : Int)) <|
 gd (0 ≤ (16 : Int)) <|
 gd (0 ≤ (8 : Int)) <|
 gd (rmB (l8_2.length + 4) 1) <|
 gd (okI .i64 (i39_2 + 1)) <|
 (gsum_l2 n w6_2 fu_l2) (l8_2 ++ [(shr32 (w6_2.getD i39_2.toNat 0) 24).toUInt8, (shr32 (w6_2.getD i39_2.toNat 0) 16).toUInt8, (shr32 (w6_2.getD i39_2.toNat 0) 8).toUInt8, (w6_2.getD i39_2.toNat 0).toUInt8]) (i39_2 + 1)
 else
 some l8_2
def gsum_l1 (n : Nat) (a0 : List UInt8) (r14 : List UInt8 × Option Int) : Nat → List UInt32 → Int → Option (List UInt8)
 | 0, _, _ => none
 | fu_l1 + 1, w6_2, i7_2 =>
  bif (decide (i7_2 < (((([] ++ a0) ++ r14.1).length : Nat) : Int))) then
   gd (0 ≤ i7_2) <|
   gd (i7_2 ≤ (((([] ++ a0) ++ r14.1).length : Nat) : Int)) <|
   gd ((64 : Int) ≤ (((((([] ++ a0) ++ r14.1).length) - i7_2.toNat) : Nat) : Int)) <|
   gd (i7_2.toNat + 64 ≤ ((([] ++ a0) ++ r14.1).length) * 1) <|
   (gpress n w6_2 (((([] ++ a0) ++ r14.1).drop i7_2.toNat).take 64)).bind fun r37_3 =>
   gd (okI .i64 (i7_2 + 64)) <|
   (gsum_l1 n a0 r14 fu_l1) r37_3 (i7_2 + 64)
  else
   gsum_l2 n w6_2 n [] 0
def gsum (n : Nat) (a0 : List UInt8) : Option (List UInt8) :=
 (gtail n ((a0.length : Nat) : Int)).bind fun r14 =>
 bif (!((r14.2).isNone)) then
  some []
 else
  gd (rmB (0 + a0.length) 1) <|
  gd (rmB ((([] ++ a0).length) + r14.1.length) 1) <|
  (gbeg n).bind fun r24 =>
  gsum_l1 n a0 r14 n [1779033703, 3144134277, 1013904242, 2773480762, 1359893119, 2600822924, 528734635, 1541459225] 0
def grot_R (r : UInt32) : S := ⟨[(4, kX r)], [], []⟩
def grot_ct (n : Nat) (r : UInt32) : Ct := ctc rU32.rd fun _ l0 => ctc rI.rd fun _ l1 => ct0 fun H => ([grot n l0 l1 = some r], shA H.length (kX r), shH H.length [])
theorem grot_ok (n : Nat) (r : UInt32) : FnOk Tryd.prog Tr 105 (grot_ct n r) := by
 refine fnok Tryd.func105 ?_
 refine HO_c rU32 fun l0 _ => HO_c rI fun l1 _ => HO_0 tabO_gs (grot_R r) [.tmp 4] [] 17 Tryd.func105 fun w hG h => ?_
 unfold grot at h
 have hT := tabO_gs
 refine Vrs hT [] ⟨[(0, kX l0), (1, kI l1)], [], []⟩ ?_
 refine Vrs hT [] ⟨[(0, kX l0), (5, kY ((UInt64.ofInt l1) &&& (31 : UInt64)))], [], []⟩ ?_
 obtain ⟨g1, g2, h⟩ := gd2 h
 refine Vgs hT fN [] [] [] ⟨[(4, kX ((shl32 l0 ((((UInt64.ofInt l1) &&& (31 : UInt64)).toNat : Nat) : Int)) ||| (shr32 l0 ((((32 : UInt64) - ((UInt64.ofInt l1) &&& (31 : UInt64))).toNat : Nat) : Int))))], [], []⟩ (aP g1 (aP g2 aN)) ?_
 refine Vc [] [] (grot_R ((shl32 l0 ((((UInt64.ofInt l1) &&& (31 : UInt64)).toNat : Nat) : Int)) ||| (shr32 l0 ((((32 : UInt64) - ((UInt64.ofInt l1) &&& (31 : UInt64))).toNat : Nat) : Int)))) (W_ret ?_)
 exact ⟨.inl rfl, by cases h; rfl⟩
def groll_R (r : UInt32) : S := ⟨[(4, kX r)], [], []⟩
def groll_ct (n : Nat) (r : UInt32) : Ct := ctc rU32.rd fun _ l0 => ctc rI.rd fun _ l1 => ct0 fun H => ([groll n l0 l1 = some r], shA H.length (kX r), shH H.length [])
theorem groll_ok (n : Nat) (r : UInt32) : FnOk Tryd.prog Tr 101 (groll_ct n r) := by
 refine fnok Tryd.func101 ?_
 refine HO_c rU32 fun l0 _ => HO_c rI fun l1 _ => HO_0 tabO_gs (groll_R r) [.tmp 4] [] 9 Tryd.func101 fun w hG h => ?_
 unfold groll at h
 have hT := tabO_gs
 refine Vrs hT [] ⟨[(0, kX l0), (1, kI l1)], [], []⟩ ?_
 obtain ⟨g1, h⟩ := gd_some h
 obtain ⟨r8, g2, h⟩ := bind_some' h
 refine Vgs hT (fT 3 (grot_ok n r8) fN) [] [] [] ⟨[(4, kX r8)], [], []⟩ (aP g1 (aP g2 aN)) ?_
 refine Vc [] [] (groll_R r8) (W_ret ?_)
 exact ⟨.inl rfl, by cases h; rfl⟩
def gsched_l2_E (w3_3 : List UInt32) (i6_1 : Int) : S := ⟨[(2, kP 0 0), (3, kP 1 0), (6, kI i6_1)], [], [⟨.blk, 112, 1, 64, .w (List.replicate 64 0)⟩, ⟨.blk, 112, 1, 64, .w w3_3⟩]⟩
abbrev gsched_l2_P (n : Nat) (r : List UInt32) (fu : Nat) : S → Prop := fun s => ∃ (w3_3 : List UInt32), ∃ (i6_1 : Int), s = gsched_l2_E w3_3 i6_1 ∧ gsched_l2 n fu w3_3 i6_1 = some r
def gsched_l1_E (a0 : List UInt8) (w3_2 : List UInt32) (i10_1 : Int) : S := ⟨[(2, kP 0 0), (3, kP 1 0), (9, .g 64 (.b a0)), (10, kI i10_1)], [], [⟨.blk, 112, 1, 64, .w (List.replicate 64 0)⟩, ⟨.blk, 112, 1, 64, .w w3_2⟩]⟩
abbrev gsched_l1_P (n : Nat) (a0 : List UInt8) (r : List UInt32) (fu : Nat) : S → Prop := fun s => ∃ (w3_2 : List UInt32), ∃ (i10_1 : Int), s = gsched_l1_E a0 w3_2 i10_1 ∧ gsched_l1 n a0 fu w3_2 i10_1 = some r
def gsched_R (r : List UInt32) : S := ⟨[(2, kP 0 0)], [], [⟨.blk, 112, 1, 64, .w r⟩]⟩
def gsched_ct (n : Nat) (r : List UInt32) : Ct := ctc (rGb 64).rd fun _ l0 => ct0 fun H => ([gsched n l0 = some r], shA H.length (.g 64 (.w r)), shH H.length [])
theorem gsched_ok (n : Nat) (r : List UInt32) : FnOk Tryd.prog Tr 89 (gsched_ct n r) := by
 refine fnok Tryd.func89 ?_
 refine HO_c (rGb 64) fun l0 hl0 => HO_0 tabO_gs (gsched_R r) [.cell 2 112] [] 68 Tryd.func89 fun w hG h => ?_
 unfold gsched at h
 have hT := tabO_gs
 refine Vrs hT [0, 1] ⟨[(1, kP 0 0), (2, kP 1 0)], [], [⟨.blk, 88, 1, 64, .b l0⟩, ⟨.blk, 112, 1, 64, .w (List.replicate 64 0)⟩]⟩ ?_
 refine Vrs hT [0, 1, 2] ⟨[(1, kP 0 0), (2, kP 1 0), (3, kP 2 0)], [], [⟨.blk, 88, 1, 64, .b l0⟩, ⟨.blk, 112, 1, 64, .w (List.replicate 64 0)⟩, ⟨.blk, 112, 1, 64, .w (List.replicate 64 0)⟩]⟩ ?_
 refine W_seq ?_
 refine Vrs hT [1, 2] ⟨[(2, kP 0 0), (3, kP 1 0), (9, .g 64 (.b l0)), (10, kI 0)], [], [⟨.blk, 112, 1, 64, .w (List.replicate 64 0)⟩, ⟨.blk, 112, 1, 64, .w (List.replicate 64 0)⟩]⟩ ?_
 refine W_block ?_
 refine Vc [] [0, 1] (gsched_l1_E l0 (List.replicate 64 0) 0) (W_lp ((gsched_l1_P n l0 r)) n ⟨_, _, rfl, h⟩ ?_)
 rintro fu_l1 _ ⟨w3_2, i10_1, rfl, h⟩
 cases fu_l1 with
 | zero => cases h
 | succ fu_l1 =>
  refine ⟨fu_l1, rfl, ?_⟩
  rw [gsched_l1] at h
  refine Vrs hT [0, 1] ⟨[(2, kP 0 0), (3, kP 1 0), (9, .g 64 (.b l0)), (10, kI i10_1), (11, kB (decide (i10_1 < (64 : Int))))], [], [⟨.blk, 112, 1, 64, .w (List.replicate 64 0)⟩, ⟨.blk, 112, 1, 64, .w w3_2⟩]⟩ ?_
  refine W_seq ?_
  refine Vi ((decide (i10_1 < (64 : Int)))) (fun g35 => ?_) (fun g35 => ?_)
  ·replace h := bif_t h g35
   refine W_skip ?_
   refine W_seq ?_
   refine W_block ?_
   obtain ⟨g1, g2, h⟩ := gd2 h
   refine Vgs hT fN [] [] [0, 1] ⟨[(2, kP 0 0), (3, kP 1 0), (4, kI i10_1), (5, kU (l0.getD i10_1.toNat 0)), (9, .g 64 (.b l0)), (10, kI i10_1)], [], [⟨.blk, 112, 1, 64, .w (List.replicate 64 0)⟩, ⟨.blk, 112, 1, 64, .w w3_2⟩]⟩ (aP g1 (aP g2 aN)) ?_
   obtain ⟨g3, g4, g5, g6, g7, h⟩ := gd5 h
   obtain ⟨g8, g9, g10, g11, h⟩ := gd4 h
   refine Vg hT fN [] [] [0, 1] ⟨[(2, kP 0 0), (3, kP 1 0), (9, .g 64 (.b l0)), (10, kI i10_1)], [], [⟨.blk, 112, 1, 64, .w (List.replicate 64 0)⟩, ⟨.blk, 112, 1, 64, .w (w3_2.set ((Int.tdiv i10_1 4).toNat) ((shl32 (w3_2.getD ((Int.tdiv i10_1 4).toNat) 0) 8) ||| ((l0.getD i10_1.toNat 0).toUInt32)))⟩]⟩ (aP g3 (aP g4 (aP g5 (aP g6 (aP g7 (aP g8 (aP g9 (aP g10 (aP g11 aN))))))))) ?_
   obtain ⟨g12, h⟩ := gd_some h
   refine Vg hT fN [] [] [0, 1] (gsched_l1_E l0 (w3_2.set ((Int.tdiv i10_1 4).toNat) ((shl32 (w3_2.getD ((Int.tdiv i10_1 4).toNat) 0) 8) ||| ((l0.getD i10_1.toNat 0).toUInt32))) (i10_1 + 1)) (aP g12 aN) ?_
   exact ⟨_, _, rfl, h⟩
  ·replace h := bif_f h g35
   refine Vc [] [0, 1] ⟨[(2, kP 0 0), (3, kP 1 0)], [], [⟨.blk, 112, 1, 64, .w (List.replicate 64 0)⟩, ⟨.blk, 112, 1, 64, .w w3_2⟩]⟩ (W_exit ?_)
   refine W_seq ?_
   refine Vrs hT [0, 1] ⟨[(2, kP 0 0), (3, kP 1 0), (6, kI 16)], [], [⟨.blk, 112, 1, 64, .w (List.replicate 64 0)⟩, ⟨.blk, 112, 1, 64, .w w3_2⟩]⟩ ?_
   refine W_block ?_
   refine Vc [] [0, 1] (gsched_l2_E w3_2 16) (W_lp ((gsched_l2_P n r)) n ⟨_, _, rfl, h⟩ ?_)
   rintro fu_l2 _ ⟨w3_3, i6_1, rfl, h⟩
   cases fu_l2 with
   | zero => cases h
   | succ fu_l2 =>
    refine ⟨fu_l2, rfl, ?_⟩
    rw [gsched_l2] at h
    refine W_seq ?_
    refine Vrs hT [0, 1] ⟨[(2, kP 0 0), (3, kP 1 0), (6, kI i6_1), (27, kB (decide (i6_1 < (64 : Int))))], [], [⟨.blk, 112, 1, 64, .w (List.replicate 64 0)⟩, ⟨.blk, 112, 1, 64, .w w3_3⟩]⟩ ?_
    refine Vi ((decide (i6_1 < (64 : Int)))) (fun g34 => ?_) (fun g34 => ?_)
    ·replace h := bif_t h g34
     refine W_skip ?_
     refine W_seq ?_
     refine W_block ?_
     obtain ⟨g13, g14, g15, g16, g17, h⟩ := gd5 h
     obtain ⟨g18, h⟩ := gd_some h
     refine Vds hT fN 9 [] [(2, false), (3, false), (6, false), (7, false), (37, false)] [] [0, 1] ⟨[(2, kP 0 0), (3, kP 1 0), (6, kI i6_1), (7, kX (w3_3.getD ((i6_1 - 15).toNat) 0)), (8, kX (w3_3.getD ((i6_1 - 2).toNat) 0))], [], [⟨.blk, 112, 1, 64, .w (List.replicate 64 0)⟩, ⟨.blk, 112, 1, 64, .w w3_3⟩]⟩ (aP g13 (aP g14 (aP g15 (aP g16 (aP g17 (aP g18 aN)))))) ?_
     obtain ⟨g19, g20, g21, h⟩ := gd3 h
     obtain ⟨r44_3, g22, h⟩ := bind_some' h
     obtain ⟨r46_3, g23, h⟩ := bind_some' h
     obtain ⟨g24, g25, g26, g27, h⟩ := gd4 h
     obtain ⟨r58_3, g28, h⟩ := bind_some' h
     obtain ⟨r60_3, g29, h⟩ := bind_some' h
     obtain ⟨g30, g31, g32, h⟩ := gd3 h
     refine Vd hT (fT 6 (groll_ok n r44_3) (fT 8 (groll_ok n r46_3) (fT 20 (groll_ok n r58_3) (fT 22 (groll_ok n r60_3) fN)))) 28 [] [(2, false), (3, false), (6, false), (38, false), (65, false)] [] [0, 1] ⟨[(2, kP 0 0), (3, kP 1 0), (6, kI i6_1)], [], [⟨.blk, 112, 1, 64, .w (List.replicate 64 0)⟩, ⟨.blk, 112, 1, 64, .w (w3_3.set i6_1.toNat ((((w3_3.getD ((i6_1 - 16).toNat) 0) + ((r44_3 ^^^ r46_3) ^^^ (shr32 (w3_3.getD ((i6_1 - 15).toNat) 0) 3))) + (w3_3.getD ((i6_1 - 7).toNat) 0)) + ((r58_3 ^^^ r60_3) ^^^ (shr32 (w3_3.getD ((i6_1 - 2).toNat) 0) 10))))⟩]⟩ (aP g19 (aP g20 (aP g21 (aP g22 (aP g23 (aP g24 (aP g25 (aP g26 (aP g27 (aP g28 (aP g29 (aP g30 (aP g31 (aP g32 aN)))))))))))))) ?_
     obtain ⟨g33, h⟩ := gd_some h
     refine Vg hT fN [] [] [0, 1] (gsched_l2_E (w3_3.set i6_1.toNat ((((w3_3.getD ((i6_1 - 16).toNat) 0) + ((r44_3 ^^^ r46_3) ^^^ (shr32 (w3_3.getD ((i6_1 - 15).toNat) 0) 3))) + (w3_3.getD ((i6_1 - 7).toNat) 0)) + ((r58_3 ^^^ r60_3) ^^^ (shr32 (w3_3.getD ((i6_1 - 2).toNat) 0) 10)))) (i6_1 + 1)) (aP g33 aN) ?_
     exact ⟨_, _, rfl, h⟩
    ·replace h := bif_f h g34
     refine Vc [] [0, 1] ⟨[(2, kP 0 0), (3, kP 1 0)], [], [⟨.blk, 112, 1, 64, .w (List.replicate 64 0)⟩, ⟨.blk, 112, 1, 64, .w w3_3⟩]⟩ (W_exit ?_)
     refine Vrs hT [0] ⟨[(2, kP 0 0)], [], [⟨.blk, 112, 1, 64, .w w3_3⟩]⟩ ?_
     refine Vc [] [0] (gsched_R w3_3) (W_ret ?_)
     exact ⟨.inl rfl, by cases h; rfl⟩
def ground_R (r : List UInt32) : S := ⟨[(4, kP 0 0)], [], [⟨.blk, 63, 1, 8, .w r⟩]⟩
def ground_ct (n : Nat) (r : List UInt32) : Ct := ctc (rGw 8).rd fun _ l0 => ctc rU32.rd fun _ l1 => ct0 fun H => ([ground n l0 l1 = some r], shA H.length (.g 8 (.w r)), shH H.length [])
theorem ground_ok (n : Nat) (r : List UInt32) : FnOk Tryd.prog Tr 90 (ground_ct n r) := by
 refine fnok Tryd.func90 ?_
 refine HO_c (rGw 8) fun l0 hl0 => HO_c rU32 fun l1 _ => HO_0 tabO_gs (ground_R r) [.cell 4 63] [] 79 Tryd.func90 fun w hG h => ?_
 unfold ground at h
 have hT := tabO_gs
 refine Vrs hT [0, 1] ⟨[(1, kX l1), (2, kP 0 0), (4, kP 1 0)], [], [⟨.blk, 63, 1, 8, .w l0⟩, ⟨.blk, 63, 1, 8, .w (List.replicate 8 0)⟩]⟩ ?_
 obtain ⟨g1, g2, g3, g4, h⟩ := gd4 h
 refine Vds hT fN 5 [] [(1, false), (2, false), (4, false), (5, false), (12, false)] [] [0, 1] ⟨[(1, kX l1), (2, kP 0 0), (4, kP 1 0), (5, kX (l0.getD 0 0)), (6, kX (l0.getD 4 0))], [], [⟨.blk, 63, 1, 8, .w l0⟩, ⟨.blk, 63, 1, 8, .w (List.replicate 8 0)⟩]⟩ (aP g1 (aP g2 (aP g3 (aP g4 aN)))) ?_
 obtain ⟨g5, g6, h⟩ := gd2 h
 obtain ⟨r16, g7, h⟩ := bind_some' h
 obtain ⟨r18, g8, h⟩ := bind_some' h
 obtain ⟨r21, g9, h⟩ := bind_some' h
 obtain ⟨g10, g11, g12, g13, h⟩ := gd4 h
 refine Vds hT (fT 3 (groll_ok n r16) (fT 5 (groll_ok n r18) (fT 8 (groll_ok n r21) fN))) 23 [] [(2, false), (4, false), (5, false), (6, false), (34, false), (35, false)] [] [0, 1] ⟨[(2, kP 0 0), (4, kP 1 0), (5, kX (l0.getD 0 0)), (6, kX (l0.getD 4 0)), (7, kX ((((l0.getD 7 0) + ((r16 ^^^ r18) ^^^ r21)) + (((l0.getD 4 0) &&& (l0.getD 5 0)) ^^^ ((~~~(l0.getD 4 0)) &&& (l0.getD 6 0)))) + l1))], [], [⟨.blk, 63, 1, 8, .w l0⟩, ⟨.blk, 63, 1, 8, .w (List.replicate 8 0)⟩]⟩ (aP g5 (aP g6 (aP g7 (aP g8 (aP g9 (aP g10 (aP g11 (aP g12 (aP g13 aN))))))))) ?_
 obtain ⟨r38, g14, h⟩ := bind_some' h
 obtain ⟨r40, g15, h⟩ := bind_some' h
 obtain ⟨r43, g16, h⟩ := bind_some' h
 obtain ⟨g17, g18, g19, g20, g21, h⟩ := gd5 h
 obtain ⟨g22, g23, g24, h⟩ := gd3 h
 refine Vds hT (fT 1 (groll_ok n r38) (fT 3 (groll_ok n r40) (fT 6 (groll_ok n r43) fN))) 23 [] [(2, false), (4, false), (5, false), (6, false), (7, false), (44, false), (59, false)] [] [0, 1] ⟨[(2, kP 0 0), (4, kP 1 0), (5, kX (l0.getD 0 0)), (6, kX (l0.getD 4 0)), (7, kX ((((l0.getD 7 0) + ((r16 ^^^ r18) ^^^ r21)) + (((l0.getD 4 0) &&& (l0.getD 5 0)) ^^^ ((~~~(l0.getD 4 0)) &&& (l0.getD 6 0)))) + l1)), (8, kX (((r38 ^^^ r40) ^^^ r43) + ((((l0.getD 0 0) &&& (l0.getD 1 0)) ^^^ ((l0.getD 0 0) &&& (l0.getD 2 0))) ^^^ ((l0.getD 1 0) &&& (l0.getD 2 0)))))], [], [⟨.blk, 63, 1, 8, .w l0⟩, ⟨.blk, 63, 1, 8, .w (List.replicate 8 0)⟩]⟩ (aP g14 (aP g15 (aP g16 (aP g17 (aP g18 (aP g19 (aP g20 (aP g21 (aP g22 (aP g23 (aP g24 aN))))))))))) ?_
 obtain ⟨g25, g26, g27, g28, g29, h⟩ := gd5 h
 obtain ⟨g30, g31, g32, g33, g34, h⟩ := gd5 h
 refine Vgs hT fN [] [] [1] ⟨[(4, kP 0 0)], [], [⟨.blk, 63, 1, 8, .w [(((((l0.getD 7 0) + ((r16 ^^^ r18) ^^^ r21)) + (((l0.getD 4 0) &&& (l0.getD 5 0)) ^^^ ((~~~(l0.getD 4 0)) &&& (l0.getD 6 0)))) + l1) + (((r38 ^^^ r40) ^^^ r43) + ((((l0.getD 0 0) &&& (l0.getD 1 0)) ^^^ ((l0.getD 0 0) &&& (l0.getD 2 0))) ^^^ ((l0.getD 1 0) &&& (l0.getD 2 0))))), (l0.getD 0 0), (l0.getD 1 0), (l0.getD 2 0), ((l0.getD 3 0) + ((((l0.getD 7 0) + ((r16 ^^^ r18) ^^^ r21)) + (((l0.getD 4 0) &&& (l0.getD 5 0)) ^^^ ((~~~(l0.getD 4 0)) &&& (l0.getD 6 0)))) + l1)), (l0.getD 4 0), (l0.getD 5 0), (l0.getD 6 0)]⟩]⟩ (aP g25 (aP g26 (aP g27 (aP g28 (aP g29 (aP g30 (aP g31 (aP g32 (aP g33 (aP g34 aN)))))))))) ?_
 refine Vc [] [0] (ground_R [(((((l0.getD 7 0) + ((r16 ^^^ r18) ^^^ r21)) + (((l0.getD 4 0) &&& (l0.getD 5 0)) ^^^ ((~~~(l0.getD 4 0)) &&& (l0.getD 6 0)))) + l1) + (((r38 ^^^ r40) ^^^ r43) + ((((l0.getD 0 0) &&& (l0.getD 1 0)) ^^^ ((l0.getD 0 0) &&& (l0.getD 2 0))) ^^^ ((l0.getD 1 0) &&& (l0.getD 2 0))))), (l0.getD 0 0), (l0.getD 1 0), (l0.getD 2 0), ((l0.getD 3 0) + ((((l0.getD 7 0) + ((r16 ^^^ r18) ^^^ r21)) + (((l0.getD 4 0) &&& (l0.getD 5 0)) ^^^ ((~~~(l0.getD 4 0)) &&& (l0.getD 6 0)))) + l1)), (l0.getD 4 0), (l0.getD 5 0), (l0.getD 6 0)]) (W_ret ?_)
 exact ⟨.inl rfl, by cases h; rfl⟩
def gpress_l2_E (a0 : List UInt32) (w6_3 : List UInt32) (i25_1 : Int) : S := ⟨[(2, kP 1 0), (4, kP 2 0), (6, kP 3 0), (25, kI i25_1)], [(0, kP 0 0)], [ow 55 consts, ⟨.blk, 63, 1, 8, .w a0⟩, ⟨.blk, 63, 1, 8, .w (List.replicate 8 0)⟩, ⟨.blk, 63, 1, 8, .w w6_3⟩]⟩
abbrev gpress_l2_P (n : Nat) (a0 : List UInt32) (r : List UInt32) (fu : Nat) : S → Prop := fun s => ∃ (w6_3 : List UInt32), ∃ (i25_1 : Int), s = gpress_l2_E a0 w6_3 i25_1 ∧ gpress_l2 n a0 fu w6_3 i25_1 = some r
def gpress_l1_E (a0 : List UInt32) (r10 : List UInt32) (w6_2 : List UInt32) (i12_1 : Int) : S := ⟨[(2, kP 1 0), (4, kP 2 0), (5, kP 3 0), (6, kP 4 0), (12, kI i12_1)], [(0, kP 0 0)], [ow 55 consts, ⟨.blk, 63, 1, 8, .w a0⟩, ⟨.blk, 63, 1, 8, .w (List.replicate 8 0)⟩, ⟨.blk, 112, 1, 64, .w r10⟩, ⟨.blk, 63, 1, 8, .w w6_2⟩]⟩
abbrev gpress_l1_P (n : Nat) (a0 : List UInt32) (r10 : List UInt32) (r : List UInt32) (fu : Nat) : S → Prop := fun s => ∃ (w6_2 : List UInt32), ∃ (i12_1 : Int), s = gpress_l1_E a0 r10 w6_2 i12_1 ∧ gpress_l1 n a0 r10 fu w6_2 i12_1 = some r
def gpress_R (r : List UInt32) : S := ⟨[(4, kP 1 0)], [(0, kP 0 0)], [ow 55 consts, ⟨.blk, 63, 1, 8, .w r⟩]⟩
def gpress_ct (n : Nat) (r : List UInt32) : Ct := ctc (fun _ => aGw 8) fun x0 l0 => ctc (fun _ => aGb 64) fun x1 l1 => ct0 fun H => ([gpress n l0 l1 = some r], shA H.length (.g 8 (.w r)), shH H.length [])
theorem gpress_ok (n : Nat) (r : List UInt32) : FnOk Tryd.prog GK 75 (gpress_ct n r) := by
 refine ⟨fun args H g av objs hF hg ρ w vals hG hp ha => ?_, _, Tryd.func75, by kernel_rfl, by kernel_rfl⟩
 obtain ⟨x0, _, l0, rfl, e0, hF⟩ := ctc_inv hF
 obtain ⟨x1, _, l1, rfl, e1, hF⟩ := ctc_inv hF
 obtain ⟨rfl, rfl, rfl, rfl⟩ := ct0_inv hF
 dsimp only
 obtain ⟨v0, vals, rfl, k0, ha⟩ := F2.inv ha
 obtain ⟨v1, vals, rfl, k1, ha⟩ := F2.inv ha
 obtain rfl := F2.inv0 ha
 have hI : ∀ w', Kp (noB (fun _ => undef)) w w' → GK w' := fun _ hk => GK.keep hk.below hG
 have h : gpress n l0 l1 = some r := hg
 have hl0 := (aGw_ok e0 k0 (plL [])).2
 have hl1 := (aGb_ok e1 k1 (plL [])).2
 have og0 : ∀ ρ, objR ρ w plG (ow 55 consts) := gk_ro hG
 have hR0 := rel0 (gv := (fun _ => undef)) (n := 38) (w := w) (args := [.g 8 (.w l0), .g 64 (.b l1)]) (H := [ow 55 consts]) (gl := [(0, kP 0 0)]) (hpL (ps := [plG]) (F2.cons og0 F2.nil)) (allRo_ok rfl) (F2.cons (aGw_ok e0 k0 _).1 (F2.cons (aGb_ok e1 k1 _).1 F2.nil)) (GlR.glob 0 0 (by decide) (gk_at _ rfl) GlR.nil) (by simp)
 clear ha hp hg hF k0 k1 e0 e1
 refine calls_W Tryd.func75 rfl rfl hR0 (Q := fun e s => (e = .ret ∨ e = .normal) ∧ s = gpress_R r) ?_ ?_
 ·clear hR0
  unfold gpress at h
  have hT := tabO_gs
  refine Vrs hT [0, 1, 2, 3] ⟨[(2, kP 1 0), (3, kP 2 0), (4, kP 3 0)], [(0, kP 0 0)], [ow 55 consts, ⟨.blk, 63, 1, 8, .w l0⟩, ⟨.blk, 88, 1, 64, .b l1⟩, ⟨.blk, 63, 1, 8, .w (List.replicate 8 0)⟩]⟩ ?_
  refine W_seq ?_
  obtain ⟨r10, g1, h⟩ := bind_some' h
  refine W_regL hT (fT 1 (gsched_ok n r10) fN) (by kernel_rfl) 5 [2] [] [] [2, 4, 5, 6] [0, 1, 3, 4, 5] (s' := ⟨[(2, kP 1 0), (4, kP 2 0), (5, kP 3 0), (6, kP 4 0)], [(0, kP 0 0)], [ow 55 consts, ⟨.blk, 63, 1, 8, .w l0⟩, ⟨.blk, 63, 1, 8, .w (List.replicate 8 0)⟩, ⟨.blk, 112, 1, 64, .w r10⟩, ⟨.blk, 63, 1, 8, .w l0⟩]⟩) [(2, false), (4, false), (5, false), (6, false), (10, false), (11, false)] [[(2, false), (4, false), (5, false), (6, false), (10, false)]] (by kernel_rfl) ⟨_, (by kernel_rfl), (allP_cons.2 ⟨g1, allP_nil⟩)⟩ (fun sc hsc => match sc, hsc with | 0, _ => ⟨_, (by kernel_rfl), (allP_cons.2 ⟨g1, allP_nil⟩)⟩ | n + 1, h => absurd h (Nat.not_lt.2 (Nat.le_add_left 1 n))) ?_
  refine W_seq ?_
  refine Vrs hT [0, 1, 2, 3, 4] ⟨[(2, kP 1 0), (4, kP 2 0), (5, kP 3 0), (6, kP 4 0), (12, kI 0)], [(0, kP 0 0)], [ow 55 consts, ⟨.blk, 63, 1, 8, .w l0⟩, ⟨.blk, 63, 1, 8, .w (List.replicate 8 0)⟩, ⟨.blk, 112, 1, 64, .w r10⟩, ⟨.blk, 63, 1, 8, .w l0⟩]⟩ ?_
  refine W_block ?_
  refine Vc [] [0, 1, 2, 3, 4] (gpress_l1_E l0 r10 l0 0) (W_lp ((gpress_l1_P n l0 r10 r)) n ⟨_, _, rfl, h⟩ ?_)
  rintro fu_l1 _ ⟨w6_2, i12_1, rfl, h⟩
  cases fu_l1 with
  | zero => cases h
  | succ fu_l1 =>
   refine ⟨fu_l1, rfl, ?_⟩
   rw [gpress_l1] at h
   refine Vrs hT [0, 1, 2, 3, 4] ⟨[(2, kP 1 0), (4, kP 2 0), (5, kP 3 0), (6, kP 4 0), (12, kI i12_1), (13, kB (decide (i12_1 < (64 : Int))))], [(0, kP 0 0)], [ow 55 consts, ⟨.blk, 63, 1, 8, .w l0⟩, ⟨.blk, 63, 1, 8, .w (List.replicate 8 0)⟩, ⟨.blk, 112, 1, 64, .w r10⟩, ⟨.blk, 63, 1, 8, .w w6_2⟩]⟩ ?_
   refine W_seq ?_
   refine Vi ((decide (i12_1 < (64 : Int)))) (fun g16 => ?_) (fun g16 => ?_)
   ·replace h := bif_t h g16
    refine W_skip ?_
    refine W_seq ?_
    refine W_block ?_
    refine Vrs hT [0, 1, 2, 3, 4] ⟨[(2, kP 1 0), (4, kP 2 0), (5, kP 3 0), (6, kP 4 0), (7, kI i12_1), (12, kI i12_1)], [(0, kP 0 0)], [ow 55 consts, ⟨.blk, 63, 1, 8, .w l0⟩, ⟨.blk, 63, 1, 8, .w (List.replicate 8 0)⟩, ⟨.blk, 112, 1, 64, .w r10⟩, ⟨.blk, 63, 1, 8, .w w6_2⟩]⟩ ?_
    obtain ⟨g2, g3, g4, g5, h⟩ := gd4 h
    obtain ⟨r23_2, g6, h⟩ := bind_some' h
    refine Vd hT (fT 8 (ground_ok n r23_2) fN) 8 [] [(2, false), (4, false), (5, false), (6, false), (12, false), (15, false), (22, false)] [] [0, 1, 2, 3, 4] ⟨[(2, kP 1 0), (4, kP 2 0), (5, kP 3 0), (6, kP 4 0), (12, kI i12_1)], [(0, kP 0 0)], [ow 55 consts, ⟨.blk, 63, 1, 8, .w l0⟩, ⟨.blk, 63, 1, 8, .w (List.replicate 8 0)⟩, ⟨.blk, 112, 1, 64, .w r10⟩, ⟨.blk, 63, 1, 8, .w r23_2⟩]⟩ (aP g2 (aP g3 (aP g4 (aP g5 (aP g6 aN))))) ?_
    obtain ⟨g7, h⟩ := gd_some h
    refine Vg hT fN [] [] [0, 1, 2, 3, 4] (gpress_l1_E l0 r10 r23_2 (i12_1 + 1)) (aP g7 aN) ?_
    exact ⟨_, _, rfl, h⟩
   ·replace h := bif_f h g16
    refine Vc [] [0, 1, 2, 4] ⟨[(2, kP 1 0), (4, kP 2 0), (6, kP 3 0)], [(0, kP 0 0)], [ow 55 consts, ⟨.blk, 63, 1, 8, .w l0⟩, ⟨.blk, 63, 1, 8, .w (List.replicate 8 0)⟩, ⟨.blk, 63, 1, 8, .w w6_2⟩]⟩ (W_exit ?_)
    refine W_seq ?_
    refine Vrs hT [0, 1, 2, 3] ⟨[(2, kP 1 0), (4, kP 2 0), (6, kP 3 0), (25, kI 0)], [(0, kP 0 0)], [ow 55 consts, ⟨.blk, 63, 1, 8, .w l0⟩, ⟨.blk, 63, 1, 8, .w (List.replicate 8 0)⟩, ⟨.blk, 63, 1, 8, .w w6_2⟩]⟩ ?_
    refine W_block ?_
    refine Vc [] [0, 1, 2, 3] (gpress_l2_E l0 w6_2 0) (W_lp ((gpress_l2_P n l0 r)) n ⟨_, _, rfl, h⟩ ?_)
    rintro fu_l2 _ ⟨w6_3, i25_1, rfl, h⟩
    cases fu_l2 with
    | zero => cases h
    | succ fu_l2 =>
     refine ⟨fu_l2, rfl, ?_⟩
     rw [gpress_l2] at h
     refine Vrs hT [0, 1, 2, 3] ⟨[(2, kP 1 0), (4, kP 2 0), (6, kP 3 0), (25, kI i25_1), (26, kB (decide (i25_1 < (8 : Int))))], [(0, kP 0 0)], [ow 55 consts, ⟨.blk, 63, 1, 8, .w l0⟩, ⟨.blk, 63, 1, 8, .w (List.replicate 8 0)⟩, ⟨.blk, 63, 1, 8, .w w6_3⟩]⟩ ?_
     refine W_seq ?_
     refine Vi ((decide (i25_1 < (8 : Int)))) (fun g15 => ?_) (fun g15 => ?_)
     ·replace h := bif_t h g15
      refine W_skip ?_
      refine W_seq ?_
      refine W_block ?_
      refine Vrs hT [0, 1, 2, 3] ⟨[(2, kP 1 0), (4, kP 2 0), (6, kP 3 0), (8, kI i25_1), (25, kI i25_1)], [(0, kP 0 0)], [ow 55 consts, ⟨.blk, 63, 1, 8, .w l0⟩, ⟨.blk, 63, 1, 8, .w (List.replicate 8 0)⟩, ⟨.blk, 63, 1, 8, .w w6_3⟩]⟩ ?_
      obtain ⟨g8, g9, g10, g11, g12, h⟩ := gd5 h
      obtain ⟨g13, h⟩ := gd_some h
      refine Vd hT fN 6 [] [(2, false), (4, false), (6, false), (25, false), (28, false), (30, false), (33, false)] [] [0, 1, 2, 3] ⟨[(2, kP 1 0), (4, kP 2 0), (6, kP 3 0), (25, kI i25_1)], [(0, kP 0 0)], [ow 55 consts, ⟨.blk, 63, 1, 8, .w l0⟩, ⟨.blk, 63, 1, 8, .w (List.replicate 8 0)⟩, ⟨.blk, 63, 1, 8, .w (w6_3.set i25_1.toNat ((w6_3.getD i25_1.toNat 0) + (l0.getD i25_1.toNat 0)))⟩]⟩ (aP g8 (aP g9 (aP g10 (aP g11 (aP g12 (aP g13 aN)))))) ?_
      obtain ⟨g14, h⟩ := gd_some h
      refine Vg hT fN [] [] [0, 1, 2, 3] (gpress_l2_E l0 (w6_3.set i25_1.toNat ((w6_3.getD i25_1.toNat 0) + (l0.getD i25_1.toNat 0))) (i25_1 + 1)) (aP g14 aN) ?_
      exact ⟨_, _, rfl, h⟩
     ·replace h := bif_f h g15
      refine Vc [] [0, 2, 3] ⟨[(4, kP 1 0), (6, kP 2 0)], [(0, kP 0 0)], [ow 55 consts, ⟨.blk, 63, 1, 8, .w (List.replicate 8 0)⟩, ⟨.blk, 63, 1, 8, .w w6_3⟩]⟩ (W_exit ?_)
      refine Vrs hT [0, 1] ⟨[(4, kP 1 0)], [(0, kP 0 0)], [ow 55 consts, ⟨.blk, 63, 1, 8, .w w6_3⟩]⟩ ?_
      refine Vc [] [0, 1] (gpress_R w6_3) (W_ret ?_)
      exact ⟨.inl rfl, by cases h; rfl⟩
 ·rintro e s' ⟨he, rfl⟩
  refine ⟨he, fun a' w' hr => ?_⟩
  exact retS_ok tabO_gs hr (rs := [.cell 4 63]) rfl (objs := []) (by kernel_rfl)
def gtail_l1_E (a0 : Int) (l4_6 : List UInt8) (i5_1 : Int) : S := ⟨[(0, kI a0), (4, kH 0), (5, kI i5_1)], [], [nb 5 l4_6]⟩
abbrev gtail_l1_P (n : Nat) (a0 : Int) (r : List UInt8 × Option Int) (fu : Nat) : S → Prop := fun s => ∃ (l4_6 : List UInt8), ∃ (i5_1 : Int), s = gtail_l1_E a0 l4_6 i5_1 ∧ gtail_l1 n a0 fu l4_6 i5_1 = some r
def gtail_j1_E (a0 : Int) (l4_5 : List UInt8) : S := ⟨[(0, kI a0), (4, kH 0)], [], [nb 5 l4_5]⟩
abbrev gtail_j1_P (n : Nat) (a0 : Int) (r : List UInt8 × Option Int) : S → Prop := fun s => ∃ (l4_5 : List UInt8), s = gtail_j1_E a0 l4_5 ∧ gtail_j1 n a0 l4_5 = some r
def gtail_l2_E (a0 : Int) (l4_7 : List UInt8) : S := ⟨[(0, kI a0), (4, kH 0)], [], [nb 5 l4_7]⟩
abbrev gtail_l2_P (n : Nat) (a0 : Int) (r : List UInt8 × Option Int) (fu : Nat) : S → Prop := fun s => ∃ (l4_7 : List UInt8), s = gtail_l2_E a0 l4_7 ∧ gtail_l2 n a0 fu l4_7 = some r
def gtail_R (r : List UInt8 × Option Int) : S := ⟨[(2, kH 0), (3, kE 34 r.2)], [], [nb 5 r.1]⟩
def gtail_ct (n : Nat) (r : List UInt8 × Option Int) : Ct := ctc rI.rd fun _ l0 => ct0 fun H => ([gtail n l0 = some r], shA H.length (.t [.c (.wh 0), .c (.s (.er 34 .i64 r.2))]), shH H.length [nb 5 r.1])
theorem gtail_ok (n : Nat) (r : List UInt8 × Option Int) : FnOk Tryd.prog Tr 73 (gtail_ct n r) := by
 refine fnok Tryd.func73 ?_
 refine HO_c rI fun l0 _ => HO_0 tabO_gs (gtail_R r) [.tmp 2, .tmp 3] [0] 37 Tryd.func73 fun w hG h => ?_
 unfold gtail at h
 have hT := tabO_gs
 refine Vrs hT [] ⟨[(0, kI l0)], [], []⟩ ?_
 refine W_seq ?_
 refine W_seq ?_
 rcases Bool.eq_false_or_eq_true (decide (l0 < (0 : Int))) with g1 | g1
 ·replace h := bif_t h g1
  refine Vg hT fN [(2, true)] [] [] ⟨[(0, kI l0), (11, kB true)], [], []⟩ (aP g1 aN) ?_
  refine Vi (true) (fun _ => ?_) (fun hb => by cases hb)
  refine Vrs hT [] ⟨[(2, .c (.nils)), (3, kE 34 (some 1))], [], []⟩ ?_
  refine Vc [.nil 2 5 1 (.b [])] [0] (gtail_R ([], (some 1))) (W_ret ?_)
  exact ⟨.inl rfl, by cases h; rfl⟩
 ·replace h := bif_f h g1
  refine Vg hT fN [(2, false)] [] [] ⟨[(0, kI l0), (11, kB (decide ((281474976710656 : Int) < l0)))], [], []⟩ (aP g1 aN) ?_
  refine Vi ((decide ((281474976710656 : Int) < l0))) (fun g13 => ?_) (fun g13 => ?_)
  ·replace h := bif_t h g13
   refine Vrs hT [] ⟨[(2, .c (.nils)), (3, kE 34 (some 1))], [], []⟩ ?_
   refine Vc [.nil 2 5 1 (.b [])] [0] (gtail_R ([], (some 1))) (W_ret ?_)
   exact ⟨.inl rfl, by cases h; rfl⟩
  ·replace h := bif_f h g13
   refine W_skip ?_
   refine Vrs hT [0] ⟨[(0, kI l0), (4, kH 0)], [], [⟨.row, 5, 1, 1, .b [128]⟩]⟩ ?_
   refine W_join (gtail_j1_P n l0 r) ?_ ?_
   ·rintro _ ⟨l4_5, rfl, h⟩
    unfold gtail_j1 at h
    refine W_seq ?_
    refine Vrs hT [0] ⟨[(0, kI l0), (4, kH 0), (5, kI 56)], [], [nb 5 l4_5]⟩ ?_
    refine W_block ?_
    refine Vc [] [0] (gtail_l1_E l0 l4_5 56) (W_lp ((gtail_l1_P n l0 r)) n ⟨_, _, rfl, h⟩ ?_)
    rintro fu_l1 _ ⟨l4_6, i5_1, rfl, h⟩
    cases fu_l1 with
    | zero => cases h
    | succ fu_l1 =>
     refine ⟨fu_l1, rfl, ?_⟩
     rw [gtail_l1] at h
     refine W_seq ?_
     refine Vrs hT [0] ⟨[(0, kI l0), (4, kH 0), (5, kI i5_1), (25, kB (decide ((0 : Int) ≤ i5_1)))], [], [nb 5 l4_6]⟩ ?_
     refine Vi ((decide ((0 : Int) ≤ i5_1))) (fun g7 => ?_) (fun g7 => ?_)
     ·replace h := bif_t h g7
      refine W_skip ?_
      refine W_seq ?_
      refine W_block ?_
      obtain ⟨g2, g3, g4, g5, h⟩ := gd4 h
      refine Vg hT fN [] [] [2] ⟨[(0, kI l0), (4, kH 0), (5, kI i5_1)], [], [nb 5 (l4_6 ++ [(UInt8.ofInt ((8 * l0) / 2 ^ i5_1.toNat))])]⟩ (aP g2 (aP g3 (aP g4 (aP g5 aN)))) ?_
      obtain ⟨g6, h⟩ := gd_some h
      refine Vg hT fN [] [] [0] (gtail_l1_E l0 (l4_6 ++ [(UInt8.ofInt ((8 * l0) / 2 ^ i5_1.toNat))]) (i5_1 - 8)) (aP g6 aN) ?_
      exact ⟨_, _, rfl, h⟩
     ·replace h := bif_f h g7
      refine Vc [] [0] ⟨[(4, kH 0)], [], [nb 5 l4_6]⟩ (W_exit ?_)
      refine Vrs hT [0] ⟨[(2, kH 0), (3, .c (.s (.v .nilIface)))], [], [nb 5 l4_6]⟩ ?_
      refine Vc [.er 3 34 .i64] [0] (gtail_R (l4_6, none)) (W_ret ?_)
      exact ⟨.inl rfl, by cases h; rfl⟩
   ·refine W_block ?_
    refine Vc [] [0] (gtail_l2_E l0 [128]) (W_lp ((gtail_l2_P n l0 r)) n ⟨_, rfl, h⟩ ?_)
    rintro fu_l2 _ ⟨l4_7, rfl, h⟩
    cases fu_l2 with
    | zero => cases h
    | succ fu_l2 =>
     refine ⟨fu_l2, rfl, ?_⟩
     rw [gtail_l2] at h
     refine W_seq ?_
     obtain ⟨g8, g9, g10, h⟩ := gd3 h
     refine Vgs hT fN [] [] [0] ⟨[(0, kI l0), (4, kH 0), (20, kB ((Int.tmod ((l0 + ((l4_7.length : Nat) : Int)) + 8) 64) != 0))], [], [nb 5 l4_7]⟩ (aP g8 (aP g9 (aP g10 aN))) ?_
     refine Vi (((Int.tmod ((l0 + ((l4_7.length : Nat) : Int)) + 8) 64) != 0)) (fun g12 => ?_) (fun g12 => ?_)
     ·replace h := bif_t h g12
      refine W_skip ?_
      refine W_block ?_
      obtain ⟨g11, h⟩ := gd_some h
      refine Vg hT fN [] [] [2] (gtail_l2_E l0 (l4_7 ++ [0])) (aP g11 aN) ?_
      exact ⟨_, rfl, h⟩
     ·replace h := bif_f h g12
      refine Vc [] [0] (gtail_j1_E l0 l4_7) (W_exit ?_)
      exact ⟨_, rfl, h⟩
def gbeg_R (r : Unit) : S := ⟨[(0, kP 0 0)], [], [⟨.blk, 63, 1, 8, .w [1779033703, 3144134277, 1013904242, 2773480762, 1359893119, 2600822924, 528734635, 1541459225]⟩]⟩
def gbeg_ct (n : Nat) (r : Unit) : Ct := ct0 fun H => ([gbeg n = some r], shA H.length (.g 8 (.w [1779033703, 3144134277, 1013904242, 2773480762, 1359893119, 2600822924, 528734635, 1541459225])), shH H.length [])
theorem gbeg_ok (n : Nat) (r : Unit) : FnOk Tryd.prog Tr 74 (gbeg_ct n r) := by
 refine fnok Tryd.func74 ?_
 refine HO_0 tabO_gs (gbeg_R r) [.cell 0 63] [] 2 Tryd.func74 fun w hG h => ?_
 unfold gbeg at h
 have hT := tabO_gs
 refine Vrs hT [0] ⟨[(0, kP 0 0)], [], [⟨.blk, 63, 1, 8, .w (List.replicate 8 0)⟩]⟩ ?_
 refine Vrs hT [0] ⟨[(0, kP 0 0)], [], [⟨.blk, 63, 1, 8, .w [1779033703, 3144134277, 1013904242, 2773480762, 1359893119, 2600822924, 528734635, 1541459225]⟩]⟩ ?_
 refine Vc [] [0] (gbeg_R ()) (W_ret ?_)
 exact ⟨.inl rfl, by cases h; rfl⟩
def gsum_l2_E (w6_2 : List UInt32) (l8_2 : List UInt8) (i39_2 : Int) : S := ⟨[(8, kH 0), (38, .g 8 (.w w6_2)), (39, kI i39_2)], [], [nb 5 l8_2]⟩
abbrev gsum_l2_P (n : Nat) (w6_2 : List UInt32) (r : List UInt8) (fu : Nat) : S → Prop := fun s => ∃ (l8_2 : List UInt8), ∃ (i39_2 : Int), s = gsum_l2_E w6_2 l8_2 i39_2 ∧ gsum_l2 n w6_2 fu l8_2 i39_2 = some r
def gsum_l1_E (a0 : List UInt8) (r14 : List UInt8 × Option Int) (w6_2 : List UInt32) (i7_2 : Int) : S := ⟨[(5, kH 0), (6, kP 1 0), (7, kI i7_2)], [], [nb 5 (([] ++ a0) ++ r14.1), ⟨.blk, 63, 1, 8, .w w6_2⟩]⟩
abbrev gsum_l1_P (n : Nat) (a0 : List UInt8) (r14 : List UInt8 × Option Int) (r : List UInt8) (fu : Nat) : S → Prop := fun s => ∃ (w6_2 : List UInt32), ∃ (i7_2 : Int), s = gsum_l1_E a0 r14 w6_2 i7_2 ∧ gsum_l1 n a0 r14 fu w6_2 i7_2 = some r
def gsum_R (r : List UInt8) : S := ⟨[(2, kH 0)], [], [nb 5 r]⟩
def gsum_ct (n : Nat) (r : List UInt8) : Ct := ctc (rB 5).rd fun _ l0 => ct0 fun H => ([gsum n l0 = some r], shA H.length (kH 0), shH H.length [nb 5 r])
theorem gsum_ok (n : Nat) (r : List UInt8) : FnOk Tryd.prog GK 53 (gsum_ct n r) := by
 refine fnok Tryd.func53 ?_
 refine HO_c (rB 5) fun l0 _ => HO_0 tabO_gs (gsum_R r) [.tmp 2] [0] 58 Tryd.func53 fun w hG h => ?_
 have hI : ∀ w', Kp (noB (fun _ => undef)) w w' → GK w' := fun _ hk => GK.keep hk.below hG
 unfold gsum at h
 have hT := tabO_gs
 refine Vrs hT [0] ⟨[(0, kH 0)], [], [ob 5 l0]⟩ ?_
 obtain ⟨r14, g1, h⟩ := bind_some' h
 refine Vgs hT (fT 2 (gtail_ok n r14) fN) [] [] [0, 1] ⟨[(0, kH 0), (3, kH 1), (4, kE 34 r14.2)], [], [ob 5 l0, nb 5 r14.1]⟩ (aP g1 aN) ?_
 refine W_seq ?_
 refine Vrs hT [0, 1] ⟨[(0, kH 0), (3, kH 1), (18, kB (!((r14.2).isNone)))], [], [ob 5 l0, nb 5 r14.1]⟩ ?_
 refine Vi ((!((r14.2).isNone))) (fun g20 => ?_) (fun g20 => ?_)
 ·replace h := bif_t h g20
  refine Vrs hT [] ⟨[(2, .c (.nils))], [], []⟩ ?_
  refine Vc [.nil 2 5 1 (.b [])] [0] (gsum_R []) (W_ret ?_)
  exact ⟨.inl rfl, by cases h; rfl⟩
 ·replace h := bif_f h g20
  refine W_skip ?_
  obtain ⟨g2, g3, h⟩ := gd2 h
  refine Vgs hT fN [] [] [4] ⟨[(5, kH 0)], [], [nb 5 (([] ++ l0) ++ r14.1)]⟩ (aP g2 (aP g3 aN)) ?_
  obtain ⟨r24, g4, h⟩ := bind_some' h
  refine Vgs hT (fT 0 (gbeg_ok n r24) fN) [] [] [0, 1] ⟨[(5, kH 0), (6, kP 1 0)], [], [nb 5 (([] ++ l0) ++ r14.1), ⟨.blk, 63, 1, 8, .w [1779033703, 3144134277, 1013904242, 2773480762, 1359893119, 2600822924, 528734635, 1541459225]⟩]⟩ (aP g4 aN) ?_
  refine W_seq ?_
  refine Vrs hT [0, 1] ⟨[(5, kH 0), (6, kP 1 0), (7, kI 0)], [], [nb 5 (([] ++ l0) ++ r14.1), ⟨.blk, 63, 1, 8, .w [1779033703, 3144134277, 1013904242, 2773480762, 1359893119, 2600822924, 528734635, 1541459225]⟩]⟩ ?_
  refine W_block ?_
  refine Vc [] [0, 1] (gsum_l1_E l0 r14 [1779033703, 3144134277, 1013904242, 2773480762, 1359893119, 2600822924, 528734635, 1541459225] 0) (W_lp ((gsum_l1_P n l0 r14 r)) n ⟨_, _, rfl, h⟩ ?_)
  rintro fu_l1 _ ⟨w6_2, i7_2, rfl, h⟩
  cases fu_l1 with
  | zero => cases h
  | succ fu_l1 =>
   refine ⟨fu_l1, rfl, ?_⟩
   rw [gsum_l1] at h
   refine W_seq ?_
   refine Vrs hT [0, 1] ⟨[(5, kH 0), (6, kP 1 0), (7, kI i7_2), (28, kB (decide (i7_2 < (((([] ++ l0) ++ r14.1).length : Nat) : Int))))], [], [nb 5 (([] ++ l0) ++ r14.1), ⟨.blk, 63, 1, 8, .w w6_2⟩]⟩ ?_
   refine Vi ((decide (i7_2 < (((([] ++ l0) ++ r14.1).length : Nat) : Int)))) (fun g19 => ?_) (fun g19 => ?_)
   ·replace h := bif_t h g19
    refine W_skip ?_
    refine W_seq ?_
    refine W_block ?_
    obtain ⟨g5, g6, g7, g8, h⟩ := gd4 h
    obtain ⟨r37_3, g9, h⟩ := bind_some' h
    refine Vd hT (fI 6 (gpress_ok n r37_3) hI fN) 6 [] [(5, false), (6, false), (7, false), (31, false), (36, false)] [] [0, 1] ⟨[(5, kH 0), (6, kP 1 0), (7, kI i7_2)], [], [nb 5 (([] ++ l0) ++ r14.1), ⟨.blk, 63, 1, 8, .w r37_3⟩]⟩ (aP g5 (aP g6 (aP g7 (aP g8 (aP g9 aN))))) ?_
    obtain ⟨g10, h⟩ := gd_some h
    refine Vg hT fN [] [] [0, 1] (gsum_l1_E l0 r14 r37_3 (i7_2 + 64)) (aP g10 aN) ?_
    exact ⟨_, _, rfl, h⟩
   ·replace h := bif_f h g19
    refine Vc [] [1] ⟨[(6, kP 0 0)], [], [⟨.blk, 63, 1, 8, .w w6_2⟩]⟩ (W_exit ?_)
    refine Vrs hT [0] ⟨[(6, kP 0 0), (8, .c (.nils))], [], [⟨.blk, 63, 1, 8, .w w6_2⟩]⟩ ?_
    refine W_seq ?_
    refine Vrs hT [] ⟨[(8, .c (.nils)), (38, .g 8 (.w w6_2)), (39, kI 0)], [], []⟩ ?_
    refine W_block ?_
    refine Vc [.nil 8 5 1 (.b [])] [0] (gsum_l2_E w6_2 [] 0) (W_lp ((gsum_l2_P n w6_2 r)) n ⟨_, _, rfl, h⟩ ?_)
    rintro fu_l2 _ ⟨l8_2, i39_2, rfl, h⟩
    cases fu_l2 with
    | zero => cases h
    | succ fu_l2 =>
     refine ⟨fu_l2, rfl, ?_⟩
     rw [gsum_l2] at h
     refine Vrs hT [0] ⟨[(8, kH 0), (38, .g 8 (.w w6_2)), (39, kI i39_2), (40, kB (decide (i39_2 < (8 : Int))))], [], [nb 5 l8_2]⟩ ?_
     refine W_seq ?_
     refine Vi ((decide (i39_2 < (8 : Int)))) (fun g18 => ?_) (fun g18 => ?_)
     ·replace h := bif_t h g18
      refine W_skip ?_
      refine W_seq ?_
      refine W_block ?_
      obtain ⟨g11, g12, h⟩ := gd2 h
      refine Vgs hT fN [] [] [0] ⟨[(8, kH 0), (10, kX (w6_2.getD i39_2.toNat 0)), (38, .g 8 (.w w6_2)), (39, kI i39_2)], [], [nb 5 l8_2]⟩ (aP g11 (aP g12 aN)) ?_
      obtain ⟨g13, g14, g15, g16, h⟩ := gd4 h
      refine Vg hT fN [] [] [2] ⟨[(8, kH 0), (38, .g 8 (.w w6_2)), (39, kI i39_2)], [], [nb 5 (l8_2 ++ [(shr32 (w6_2.getD i39_2.toNat 0) 24).toUInt8, (shr32 (w6_2.getD i39_2.toNat 0) 16).toUInt8, (shr32 (w6_2.getD i39_2.toNat 0) 8).toUInt8, (w6_2.getD i39_2.toNat 0).toUInt8])]⟩ (aP g13 (aP g14 (aP g15 (aP g16 aN)))) ?_
      obtain ⟨g17, h⟩ := gd_some h
      refine Vg hT fN [] [] [0] (gsum_l2_E w6_2 (l8_2 ++ [(shr32 (w6_2.getD i39_2.toNat 0) 24).toUInt8, (shr32 (w6_2.getD i39_2.toNat 0) 16).toUInt8, (shr32 (w6_2.getD i39_2.toNat 0) 8).toUInt8, (w6_2.getD i39_2.toNat 0).toUInt8]) (i39_2 + 1)) (aP g17 aN) ?_
      exact ⟨_, _, rfl, h⟩
     ·replace h := bif_f h g18
      refine Vc [] [0] ⟨[(8, kH 0)], [], [nb 5 l8_2]⟩ (W_exit ?_)
      refine Vrs hT [0] ⟨[(2, kH 0)], [], [nb 5 l8_2]⟩ ?_
      refine Vc [] [0] (gsum_R l8_2) (W_ret ?_)
      exact ⟨.inl rfl, by cases h; rfl⟩
end Go.Proofs.YthichmclbiggmaaDoor
end
section
namespace Go.Proofs.YthichmclbiggmaaDoor
open Go.RowKit Go.Ch Go.Sx
def tabL_rep : List (TypeId × Ti) := [(3, ⟨.int .i64, 1, 8, true, some [.int .i64]⟩),
 (5, ⟨.int .u8, 1, 1, true, some [.int .u8]⟩),
 (22, ⟨.sl 55, 1, 24, false, some [.nils]⟩),
 (23, ⟨.sl 55, 1, 24, false, some [.nils]⟩),
 (26, ⟨.sl 5, 1, 24, false, some [.nils]⟩),
 (48, ⟨.sl 3, 1, 24, false, some [.nils]⟩),
 (49, ⟨.sl 3, 1, 24, false, some [.nils]⟩),
 (55, ⟨.int .u32, 1, 4, true, some [.int .u32]⟩),
 (90, ⟨.sl 26, 1, 24, false, some [.nils]⟩),
 (96, ⟨.int .u64, 1, 8, true, some [.int .u64]⟩),
 (98, ⟨.int .u64, 1, 8, true, some [.int .u64]⟩),
 (109, ⟨.sl 96, 1, 24, false, some [.nils]⟩)]
def tab_rep : Tab := fun t => (tabL_rep).lookup t
theorem tabE_rep : (tabL_rep.map fun p => tiOf Tryd.prog p.1) = tabL_rep.map fun p => some p.2 := by kernel_rfl
theorem tabO_rep : TabOk Tryd.prog tab_rep := tab_of tabE_rep
def bmul64 (n : Nat) (a0 : UInt64) (a1 : UInt64) : Option (UInt64 × UInt64) :=
 gd (0 ≤ (32 : Int)) <|
 gd (0 ≤ (32 : Int)) <|
 gd (0 ≤ (32 : Int)) <|
 gd (0 ≤ (32 : Int)) <|
 gd (0 ≤ (32 : Int)) <|
 some (((((shr64 a0 32) * (shr64 a1 32)) + (shr64 (((shr64 a0 32) * (a1 &&& (4294967295 : UInt64))) + (shr64 ((a0 &&& (4294967295 : UInt64)) * (a1 &&& (4294967295 : UInt64))) 32)) 32)) + (shr64 (((((shr64 a0 32) * (a1 &&& (4294967295 : UInt64))) + (shr64 ((a0 &&& (4294967295 : UInt64)) * (a1 &&& (4294967295 : UInt64))) 32)) &&& (4294967295 : UInt64)) + ((a0 &&& (4294967295 : UInt64)) * (shr64 a1 32))) 32)), (a0 * a1))
def bmul (n : Nat) (a0 : UInt64) (a1 : UInt64) : Option (UInt64 × UInt64) :=
 (bmul64 n a0 a1).bind fun r25 =>
 some (r25.1, r25.2)
def brep_l1 (n : Nat) (r24 : UInt64 × UInt64) (i8_2 : Int) : Nat → List UInt8 → Int → Option (List UInt8 × Nat)
 | 0, _, _ => none
 | fu_l1 + 1, l9_5, i10_2 =>
 bif (decide (i10_2 < (IntKind.i64.wrap ((r24.2.toNat : Nat) : Int)))) then
 gd (0 ≤ i10_2) <|
 gd (i10_2 ≤ (((IntKind.i64.wrap ((r24.2.toNat : Nat) : Int)).toNat : Nat) : Int)) <|
 gd (0 ≤ (if i8_2 < i10_2 then i8_2 else i10_2)) <|
 gd ((if i8_2 < i10_2 then i8_2 else i10_2) ≤ (((IntKind.i64.wrap ((r24.2.toNat : Nat) : Int)).toNat : Nat) : Int)) <|
 gd (okI .i64 (i10_2 + (((min ((if i8_2 < i10_2 then i8_2 else i10_2).toNat) (((IntKind.i64.wrap ((r24.2.toNat : Nat) : Int)).toNat) - i10_2.toNat)) : Nat) : Int))) <|
 (brep_l1 n r24 i8_2 fu_l1) ((l9_5.take i10_2.toNat ++ ((l9_5.drop 0).take ((if i8_2 < i10_2 then i8_2 else i10_2).toNat)).take (min ((if i8_2 < i10_2 then i8_2 else i10_2).toNat) (((IntKind.i64.wrap ((r24.2.toNat : Nat) : Int)).toNat) - i10_2.toNat))) ++ l9_5.drop (i10_2.toNat + (min ((if i8_2 < i10_2 then i8_2 else i10_2).toNat) (((IntKind.i64.wrap ((r24.2.toNat : Nat) : Int)).toNat) - i10_2.toNat)))) (i10_2 + (((min ((if i8_2 < i10_2 then i8_2 else i10_2).toNat) (((IntKind.i64.wrap ((r24.2.toNat : Nat) : Int)).toNat) - i10_2.toNat)) : Nat) : Int))
 else
 some (((l9_5.drop 0).take ((IntKind.i64.wrap ((r24.2.toNat : Nat) : Int)).toNat)), (IntKind.i64.wrap ((r24.2.toNat : Nat) : Int)).toNat)
def brep_j3 (n : Nat) (u0 : List UInt8) (a0 : List UInt8) (r24 : UInt64 × UInt64) (i8_2 : Int) : Option (List UInt8 × Nat) :=
 gd (0 ≤ (IntKind.i64.wrap ((r24.2.toNat : Nat) : Int))) <|
 gd ((IntKind.i64.wrap ((r24.2.toNat : Nat) : Int)) ≤ (IntKind.i64.wrap ((r24.2.toNat : Nat) : Int))) <|
 gd ((IntKind.i64.wrap ((r24.2.toNat : Nat) : Int)) ≤ ((((IntKind.i64.wrap ((r24.2.toNat : Nat) : Int))).toNat : Nat) : Int)) <|
 brep_l1 n r24 i8_2 n ((u0.take 0 ++ a0.take (min a0.length ((IntKind.i64.wrap ((r24.2.toNat : Nat) : Int)).toNat))) ++ u0.drop (0 + (min a0.length ((IntKind.i64.wrap ((r24.2.toNat : Nat) : Int)).toNat)))) (((min a0.length ((IntKind.i64.wrap ((r24.2.toNat : Nat) : Int)).toNat)) : Nat) : Int)
def brep_j2 (n : Nat) (u0 : List UInt8) (a0 : List UInt8) (r24 : UInt64 × UInt64) : Option (List UInt8 × Nat) :=
 bif (((a0.length : Nat) : Int) == 0) then
 some ([], 0)
 else
 bif (decide ((8192 : Int) < (IntKind.i64.wrap ((r24.2.toNat : Nat) : Int)))) then
 gd (((a0.length : Nat) : Int) ≠ 0) <|
 gd (okI .i64 (Int.tdiv 8192 ((a0.length : Nat) : Int))) <|
 gd (okI .i64 ((Int.tdiv 8192 ((a0.length : Nat) : Int)) * ((a0.length : Nat) : Int))) <|
 bif (((Int.tdiv 8192 ((a0.length : Nat) : Int)) * ((a0.length : Nat) : Int)) == 0) then
 brep_j3 n u0 a0 r24 ((a0.length : Nat) : Int)
 else
 brep_j3 n u0 a0 r24 ((Int.tdiv 8192 ((a0.length : Nat) : Int)) * ((a0.length : Nat) : Int))
 else
 brep_j3 n u0 a0 r24 (IntKind.i64.wrap ((r24.2.toNat : Nat) : Int))
def brep_j1 (n : Nat) (u0 : List UInt8) (a0 : List UInt8) (a1 : Int) : Option (List UInt8 × Nat) :=
 (bmul n (UInt64.ofInt ((a0.length : Nat) : Int)) (UInt64.ofInt a1)).bind fun r24 =>
 bif (decide ((0 : UInt64) < r24.1)) then
  none
 else
  bif (decide ((9223372036854775807 : UInt64) < r24.2)) then
   none
  else
   brep_j2 n u0 a0 r24
def brep (n : Nat) (u0 : List UInt8) (a0 : List UInt8) (a1 : Int) : Option (List UInt8 × Nat) :=
 bif (a1 == 0) then
 some ([], 0)
 else
 bif (decide (a1 < (0 : Int))) then
 none
 else
 brep_j1 n u0 a0 a1
def bmul64_R (r : UInt64 × UInt64) : S := ⟨[(4, .c (.s (.u64 r.1))), (5, .c (.s (.u64 r.2)))], [], []⟩
def bmul64_ct (n : Nat) (r : UInt64 × UInt64) : Ct := fun args H => match args with
 | [x0, x1] => (match aU64 x0 with | some l0 => (match aU64 x1 with | some l1 => some ([bmul64 n l0 l1 = some r], shA H.length (.t [.c (.s (.u64 r.1)), .c (.s (.u64 r.2))]), shH H.length []) | none => none) | none => none)
 | _ => none
theorem bmul64_ok (n : Nat) (r : UInt64 × UInt64) : FnOk Tryd.prog Tr 92 (bmul64_ct n r) := by
 refine ⟨fun args H g av objs hF hg ρ w vals hG hp ha => ?_, _, Tryd.func92, by kernel_rfl, by kernel_rfl⟩
 obtain ⟨x0, x1, rfl⟩ : ∃ x0 x1, args = [x0, x1] := by
  unfold bmul64_ct at hF; split at hF
  ·exact ⟨_, _, rfl⟩
  ·cases hF
 cases e0 : aU64 x0 with
 | none => simp only [bmul64_ct, e0, reduceCtorEq] at hF
 | some l0 =>
 cases e1 : aU64 x1 with
 | none => simp only [bmul64_ct, e0, e1, reduceCtorEq] at hF
 | some l1 =>
 simp only [bmul64_ct, e0, e1, Option.some.injEq, Prod.mk.injEq] at hF
 obtain ⟨rfl, rfl, rfl⟩ := hF
 obtain ⟨v0, vals, rfl, k0, ha⟩ := F2.inv ha
 obtain ⟨v1, vals, rfl, k1, ha⟩ := F2.inv ha
 obtain rfl := F2.inv0 ha
 have hI : ∀ w', Kp (noB (fun _ => undef)) w w' → Tr w' := fun _ hk => Tr.keep hk.below hG
 have h : bmul64 n l0 l1 = some r := hg
 have s0 := aU64_ok e0 (k0)
 have s1 := aU64_ok e1 (k1)
 have hR0 := rel0 (gv := (fun _ => undef)) (n := 51) (w := w) (args := [kY l0, kY l1]) (H := []) (gl := []) (hpL (ps := []) F2.nil) (allRo_ok rfl) (F2.cons s0 (F2.cons s1 F2.nil)) GlR.nil (by simp)
 clear ha hp hg k0 k1 e0 e1
 refine calls_W Tryd.func92 rfl rfl hR0 (Q := fun e s => (e = .ret ∨ e = .normal) ∧ s = bmul64_R r) ?_ ?_
 ·clear hR0
  unfold bmul64 at h
  have hT := tabO_rep
  refine Vrs hT [] ⟨[(0, kY l0), (1, kY l1)], [], []⟩ ?_
  refine Vrs hT [] ⟨[(0, kY l0), (1, kY l1), (6, kY (l0 &&& (4294967295 : UInt64)))], [], []⟩ ?_
  obtain ⟨g1, h⟩ := gd_some h
  refine Vgs hT fN [] [] [] ⟨[(0, kY l0), (1, kY l1), (6, kY (l0 &&& (4294967295 : UInt64))), (7, kY (shr64 l0 32))], [], []⟩ (aP g1 aN) ?_
  refine Vrs hT [] ⟨[(0, kY l0), (1, kY l1), (6, kY (l0 &&& (4294967295 : UInt64))), (7, kY (shr64 l0 32)), (8, kY (l1 &&& (4294967295 : UInt64)))], [], []⟩ ?_
  obtain ⟨g2, h⟩ := gd_some h
  refine Vgs hT fN [] [] [] ⟨[(0, kY l0), (1, kY l1), (6, kY (l0 &&& (4294967295 : UInt64))), (7, kY (shr64 l0 32)), (8, kY (l1 &&& (4294967295 : UInt64))), (9, kY (shr64 l1 32))], [], []⟩ (aP g2 aN) ?_
  refine Vrs hT [] ⟨[(0, kY l0), (1, kY l1), (6, kY (l0 &&& (4294967295 : UInt64))), (7, kY (shr64 l0 32)), (8, kY (l1 &&& (4294967295 : UInt64))), (9, kY (shr64 l1 32)), (10, kY ((l0 &&& (4294967295 : UInt64)) * (l1 &&& (4294967295 : UInt64))))], [], []⟩ ?_
  obtain ⟨g3, h⟩ := gd_some h
  refine Vgs hT fN [] [] [] ⟨[(0, kY l0), (1, kY l1), (6, kY (l0 &&& (4294967295 : UInt64))), (7, kY (shr64 l0 32)), (9, kY (shr64 l1 32)), (11, .c (.s (.u64 (((shr64 l0 32) * (l1 &&& (4294967295 : UInt64))) + (shr64 ((l0 &&& (4294967295 : UInt64)) * (l1 &&& (4294967295 : UInt64))) 32)))))], [], []⟩ (aP g3 aN) ?_
  refine Vrs hT [] ⟨[(0, kY l0), (1, kY l1), (6, kY (l0 &&& (4294967295 : UInt64))), (7, kY (shr64 l0 32)), (9, kY (shr64 l1 32)), (11, .c (.s (.u64 (((shr64 l0 32) * (l1 &&& (4294967295 : UInt64))) + (shr64 ((l0 &&& (4294967295 : UInt64)) * (l1 &&& (4294967295 : UInt64))) 32))))), (12, .c (.s (.u64 ((((shr64 l0 32) * (l1 &&& (4294967295 : UInt64))) + (shr64 ((l0 &&& (4294967295 : UInt64)) * (l1 &&& (4294967295 : UInt64))) 32)) &&& (4294967295 : UInt64)))))], [], []⟩ ?_
  obtain ⟨g4, h⟩ := gd_some h
  refine Vgs hT fN [] [] [] ⟨[(0, kY l0), (1, kY l1), (6, kY (l0 &&& (4294967295 : UInt64))), (7, kY (shr64 l0 32)), (9, kY (shr64 l1 32)), (12, .c (.s (.u64 ((((shr64 l0 32) * (l1 &&& (4294967295 : UInt64))) + (shr64 ((l0 &&& (4294967295 : UInt64)) * (l1 &&& (4294967295 : UInt64))) 32)) &&& (4294967295 : UInt64))))), (13, .c (.s (.u64 (shr64 (((shr64 l0 32) * (l1 &&& (4294967295 : UInt64))) + (shr64 ((l0 &&& (4294967295 : UInt64)) * (l1 &&& (4294967295 : UInt64))) 32)) 32))))], [], []⟩ (aP g4 aN) ?_
  refine Vrs hT [] ⟨[(0, kY l0), (1, kY l1), (7, kY (shr64 l0 32)), (9, kY (shr64 l1 32)), (12, .c (.s (.u64 (((((shr64 l0 32) * (l1 &&& (4294967295 : UInt64))) + (shr64 ((l0 &&& (4294967295 : UInt64)) * (l1 &&& (4294967295 : UInt64))) 32)) &&& (4294967295 : UInt64)) + ((l0 &&& (4294967295 : UInt64)) * (shr64 l1 32)))))), (13, .c (.s (.u64 (shr64 (((shr64 l0 32) * (l1 &&& (4294967295 : UInt64))) + (shr64 ((l0 &&& (4294967295 : UInt64)) * (l1 &&& (4294967295 : UInt64))) 32)) 32))))], [], []⟩ ?_
  obtain ⟨g5, h⟩ := gd_some h
  refine Vgs hT fN [] [] [] ⟨[(0, kY l0), (1, kY l1), (4, .c (.s (.u64 ((((shr64 l0 32) * (shr64 l1 32)) + (shr64 (((shr64 l0 32) * (l1 &&& (4294967295 : UInt64))) + (shr64 ((l0 &&& (4294967295 : UInt64)) * (l1 &&& (4294967295 : UInt64))) 32)) 32)) + (shr64 (((((shr64 l0 32) * (l1 &&& (4294967295 : UInt64))) + (shr64 ((l0 &&& (4294967295 : UInt64)) * (l1 &&& (4294967295 : UInt64))) 32)) &&& (4294967295 : UInt64)) + ((l0 &&& (4294967295 : UInt64)) * (shr64 l1 32))) 32)))))], [], []⟩ (aP g5 aN) ?_
  refine Vrs hT [] ⟨[(4, .c (.s (.u64 ((((shr64 l0 32) * (shr64 l1 32)) + (shr64 (((shr64 l0 32) * (l1 &&& (4294967295 : UInt64))) + (shr64 ((l0 &&& (4294967295 : UInt64)) * (l1 &&& (4294967295 : UInt64))) 32)) 32)) + (shr64 (((((shr64 l0 32) * (l1 &&& (4294967295 : UInt64))) + (shr64 ((l0 &&& (4294967295 : UInt64)) * (l1 &&& (4294967295 : UInt64))) 32)) &&& (4294967295 : UInt64)) + ((l0 &&& (4294967295 : UInt64)) * (shr64 l1 32))) 32))))), (5, kY (l0 * l1))], [], []⟩ ?_
  refine Vc [] [] (bmul64_R (((((shr64 l0 32) * (shr64 l1 32)) + (shr64 (((shr64 l0 32) * (l1 &&& (4294967295 : UInt64))) + (shr64 ((l0 &&& (4294967295 : UInt64)) * (l1 &&& (4294967295 : UInt64))) 32)) 32)) + (shr64 (((((shr64 l0 32) * (l1 &&& (4294967295 : UInt64))) + (shr64 ((l0 &&& (4294967295 : UInt64)) * (l1 &&& (4294967295 : UInt64))) 32)) &&& (4294967295 : UInt64)) + ((l0 &&& (4294967295 : UInt64)) * (shr64 l1 32))) 32)), (l0 * l1))) (W_ret ?_)
  exact ⟨.inl rfl, by cases h; rfl⟩
 ·rintro e s' ⟨he, rfl⟩
  refine ⟨he, fun a' w' hr => ?_⟩
  exact retS_ok tabO_rep hr (rs := [.tmp 4, .tmp 5]) rfl (objs := []) (by kernel_rfl)
def bmul_R (r : UInt64 × UInt64) : S := ⟨[(4, .c (.s (.u64 r.1))), (5, .c (.s (.u64 r.2)))], [], []⟩
def bmul_ct (n : Nat) (r : UInt64 × UInt64) : Ct := fun args H => match args with
 | [x0, x1] => (match aU64 x0 with | some l0 => (match aU64 x1 with | some l1 => some ([bmul n l0 l1 = some r], shA H.length (.t [.c (.s (.u64 r.1)), .c (.s (.u64 r.2))]), shH H.length []) | none => none) | none => none)
 | _ => none
theorem bmul_ok (n : Nat) (r : UInt64 × UInt64) : FnOk Tryd.prog Tr 76 (bmul_ct n r) := by
 refine ⟨fun args H g av objs hF hg ρ w vals hG hp ha => ?_, _, Tryd.func76, by kernel_rfl, by kernel_rfl⟩
 obtain ⟨x0, x1, rfl⟩ : ∃ x0 x1, args = [x0, x1] := by
  unfold bmul_ct at hF; split at hF
  ·exact ⟨_, _, rfl⟩
  ·cases hF
 cases e0 : aU64 x0 with
 | none => simp only [bmul_ct, e0, reduceCtorEq] at hF
 | some l0 =>
 cases e1 : aU64 x1 with
 | none => simp only [bmul_ct, e0, e1, reduceCtorEq] at hF
 | some l1 =>
 simp only [bmul_ct, e0, e1, Option.some.injEq, Prod.mk.injEq] at hF
 obtain ⟨rfl, rfl, rfl⟩ := hF
 obtain ⟨v0, vals, rfl, k0, ha⟩ := F2.inv ha
 obtain ⟨v1, vals, rfl, k1, ha⟩ := F2.inv ha
 obtain rfl := F2.inv0 ha
 have hI : ∀ w', Kp (noB (fun _ => undef)) w w' → Tr w' := fun _ hk => Tr.keep hk.below hG
 have h : bmul n l0 l1 = some r := hg
 have s0 := aU64_ok e0 (k0)
 have s1 := aU64_ok e1 (k1)
 have hR0 := rel0 (gv := (fun _ => undef)) (n := 30) (w := w) (args := [kY l0, kY l1]) (H := []) (gl := []) (hpL (ps := []) F2.nil) (allRo_ok rfl) (F2.cons s0 (F2.cons s1 F2.nil)) GlR.nil (by simp)
 clear ha hp hg k0 k1 e0 e1
 refine calls_W Tryd.func76 rfl rfl hR0 (Q := fun e s => (e = .ret ∨ e = .normal) ∧ s = bmul_R r) ?_ ?_
 ·clear hR0
  unfold bmul at h
  have hT := tabO_rep
  refine Vrs hT [] ⟨[(0, kY l0), (1, kY l1)], [], []⟩ ?_
  refine W_seq ?_
  refine W_condF ?_
  refine Vc [] [] ⟨[(0, kY l0), (1, kY l1)], [], []⟩ (W_skip ?_)
  obtain ⟨r25, g1, h⟩ := bind_some' h
  refine Vgs hT (fT 2 (bmul64_ok n r25) fN) [] [] [] ⟨[(8, kY r25.1), (9, kY r25.2)], [], []⟩ (aP g1 aN) ?_
  refine Vrs hT [] ⟨[(4, kY r25.1), (5, kY r25.2)], [], []⟩ ?_
  refine Vc [] [] (bmul_R (r25.1, r25.2)) (W_ret ?_)
  exact ⟨.inl rfl, by cases h; rfl⟩
 ·rintro e s' ⟨he, rfl⟩
  refine ⟨he, fun a' w' hr => ?_⟩
  exact retS_ok tabO_rep hr (rs := [.tmp 4, .tmp 5]) rfl (objs := []) (by kernel_rfl)
theorem bind_of {α β : Type} {x : Option α} {k : α → Option β} {r : β} {y : α} (h : x.bind k = some r) (hx : x = some y) : k y = some r := by subst hx; exact h
theorem bmul_all : ∀ k : Fin 201, bmul 0 (UInt64.ofInt ((1 : Nat) : Int)) (UInt64.ofInt ((k.val : Nat) : Int)) = some (0, UInt64.ofNat k.val) := by decide +kernel
theorem bmul_1 (n : Nat) {k : Nat} (h : k ≤ 200) : bmul n (UInt64.ofInt ((1 : Nat) : Int)) (UInt64.ofInt (k : Int)) = some (0, UInt64.ofNat k) := bmul_all ⟨k, by omega⟩
theorem u64_back {k : Nat} (h : k ≤ 200) : IntKind.i64.wrap (((UInt64.ofNat k).toNat : Nat) : Int) = (k : Int) := by
 have e : (UInt64.ofNat k).toNat = k := by simp; omega
 rw [e]
 exact okI64 (by omega) (by omega)
theorem bmul_m {n : Nat} {l0 : List UInt8} {l1 : Int} {r : UInt64 × UInt64} (h : bmul n (UInt64.ofInt ((l0.length : Nat) : Int)) (UInt64.ofInt l1) = some r) (h1 : l0.length = 1) (h0 : 0 ≤ l1) (h2 : l1 ≤ 200) : IntKind.i64.wrap ((r.2.toNat : Nat) : Int) = ((l1.toNat : Nat) : Int) := by
 obtain ⟨k, rfl⟩ := Int.eq_ofNat_of_zero_le h0
 rw [h1, bmul_1 n (by omega)] at h
 injection h with h; subst h
 exact u64_back (by omega)
theorem brep_l1_is (n : Nat) (m : Nat) (hm : m ≤ 200) (r : UInt64 × UInt64) (hr : IntKind.i64.wrap ((r.2.toNat : Nat) : Int) = (m : Int)) (x : UInt8) : ∀ (q i fu : Nat) (l : List UInt8), i + q = m → q < fu → 1 ≤ i → l.length = m → l.take i = List.replicate i x → brep_l1 n r (m : Int) fu l (i : Int) = some (List.replicate m x, m) := by
 intro q
 induction q using Nat.strongRecOn with
 | _ q ih =>
  intro i fu l hi hf h1 hl ht
  cases fu with
  | zero => omega
  | succ fu =>
   rw [brep_l1, hr]
   by_cases hq : q = 0
   ·subst hq
    have : decide ((i : Int) < (m : Int)) = false := decide_eq_false (by omega)
    rw [this, cond_false, Int.toNat_natCast, List.drop_zero, ← hl, List.take_length]
    congr 2
    rw [show l.length = i by omega, ← ht, List.take_of_length_le (by omega)]
   ·have e1 : (if (m : Int) < (i : Int) then (m : Int) else (i : Int)) = (i : Int) := if_neg (by omega)
    have : decide ((i : Int) < (m : Int)) = true := decide_eq_true (by omega)
    rw [this, cond_true, e1, Int.toNat_natCast, Int.toNat_natCast, gd_pos (by omega), gd_pos (by omega), gd_pos (by omega), gd_pos (by omega), gd_pos (okI64 (by omega) (by omega))]
    obtain ⟨k, hk⟩ : ∃ k, k = min i (m - i) := ⟨_, rfl⟩
    rw [← hk, List.drop_zero]
    have e2 : ((i : Int) + (k : Int)) = ((i + k : Nat) : Int) := by omega
    rw [e2]
    refine ih (q - k) (by omega) (i + k) fu _ (by omega) (by omega) (by omega) ?_ ?_
    ·simp; omega
    ·rw [ht]
     have hle : ((List.replicate i x) ++ (List.replicate i x).take k).length = i + k := by simp; omega
     rw [List.take_append_of_le_length (by omega), List.take_of_length_le (by omega), List.take_replicate, List.replicate_append_replicate, Nat.min_eq_left (by omega)]
theorem brep_is {n : Nat} (hn : 1000 ≤ n) {m : Nat} (hm : m ≤ 200) (x : UInt8) (u : List UInt8) (hu : u.length = m) : brep n u [x] (m : Int) = some (List.replicate m x, m) := by
 unfold brep
 by_cases h0 : m = 0
 ·subst h0; rfl
 ·have t1 : ((m : Int) == 0) = false := by rw [beq_eq_false_iff_ne]; omega
  have t2 : decide ((m : Int) < 0) = false := decide_eq_false (by omega)
  have hr : IntKind.i64.wrap (((UInt64.ofNat m).toNat : Nat) : Int) = (m : Int) := u64_back hm
  rw [t1, t2, cond_false, cond_false]
  unfold brep_j1
  rw [show ([x] : List UInt8).length = 1 from rfl, bmul_1 n hm, Option.bind_some]
  have t3 : decide ((0 : UInt64) < 0) = false := rfl
  have t4 : decide ((9223372036854775807 : UInt64) < UInt64.ofNat m) = false := by
   rw [decide_eq_false_iff_not, UInt64.lt_iff_toNat_lt]; simp; omega
  dsimp only
  rw [t3, t4, cond_false, cond_false]
  unfold brep_j2 brep_j3
  dsimp only
  rw [hr, show ([x] : List UInt8).length = 1 from rfl]
  have t5 : decide ((8192 : Int) < (m : Int)) = false := decide_eq_false (by omega)
  rw [t5, cond_false, gd_pos (by omega), gd_pos (by omega), gd_pos (by omega), Int.toNat_natCast, Nat.min_eq_left (by omega)]
  show brep_l1 n _ _ n (([] ++ [x]) ++ u.drop (0 + 1)) ((1 : Nat) : Int) = _
  exact brep_l1_is n m hm _ hr x (m - 1) 1 n _ (by omega) (by omega) (Nat.le_refl _) (by simp; omega) (by simp)
def brep_l1_E (r24 : UInt64 × UInt64) (i8_2 : Int) (l9_5 : List UInt8) (i10_2 : Int) : S := ⟨[(7, .c (.s (.k .i64 (IntKind.i64.wrap ((r24.2.toNat : Nat) : Int))))), (8, .c (.s (.k .i64 i8_2))), (9, .c (.sl 0 0 ((IntKind.i64.wrap ((r24.2.toNat : Nat) : Int)).toNat))), (10, .c (.s (.k .i64 i10_2)))], [], [⟨.row, 5, 1, ((IntKind.i64.wrap ((r24.2.toNat : Nat) : Int))).toNat, .b l9_5⟩]⟩
def brep_l1_P (n : Nat) (r24 : UInt64 × UInt64) (i8_2 : Int) (r : List UInt8 × Nat) (fu : Nat) : S → Prop := fun s => ∃ (l9_5 : List UInt8), ∃ (i10_2 : Int), s = brep_l1_E r24 i8_2 l9_5 i10_2 ∧ brep_l1 n r24 i8_2 fu l9_5 i10_2 = some r
theorem brep_l1_M {n : Nat} {r24 : UInt64 × UInt64} {i8_2 : Int} {l9_5 : List UInt8} {i10_2 : Int} {r : List UInt8 × Nat} {fu : Nat} (h : brep_l1 n r24 i8_2 fu l9_5 i10_2 = some r) : brep_l1_P n r24 i8_2 r fu (brep_l1_E r24 i8_2 l9_5 i10_2) := ⟨l9_5, i10_2, rfl, h⟩
def brep_j3_E (u0 : List UInt8) (a0 : List UInt8) (r24 : UInt64 × UInt64) (i8_2 : Int) : S := ⟨[(0, .c (.wh 0)), (7, .c (.s (.k .i64 (IntKind.i64.wrap ((r24.2.toNat : Nat) : Int))))), (8, .c (.s (.k .i64 i8_2)))], [], [⟨(.ro false), 5, 1, a0.length, .b a0⟩]⟩
def brep_j3_P (n : Nat) (q : Nat) (a0 : List UInt8) (r24 : UInt64 × UInt64) (r : List UInt8 × Nat) : S → Prop := fun s => ∃ (i8_2 : Int), s = brep_j3_E [] a0 r24 i8_2 ∧ (∀ u0 : List UInt8, u0.length = q → brep_j3 n u0 a0 r24 i8_2 = some r)
theorem brep_j3_M {n : Nat} {q : Nat} {a0 : List UInt8} {r24 : UInt64 × UInt64} {i8_2 : Int} {r : List UInt8 × Nat} (h : ∀ u0 : List UInt8, u0.length = q → brep_j3 n u0 a0 r24 i8_2 = some r) : brep_j3_P n q a0 r24 r (brep_j3_E [] a0 r24 i8_2) := ⟨i8_2, rfl, h⟩
def brep_j2_E (u0 : List UInt8) (a0 : List UInt8) (r24 : UInt64 × UInt64) : S := ⟨[(0, .c (.wh 0)), (6, .c (.s (.u64 r24.2)))], [], [⟨(.ro false), 5, 1, a0.length, .b a0⟩]⟩
def brep_j2_P (n : Nat) (q : Nat) (a0 : List UInt8) (r24 : UInt64 × UInt64) (r : List UInt8 × Nat) : S → Prop := fun s => s = brep_j2_E [] a0 r24 ∧ (∀ u0 : List UInt8, u0.length = q → brep_j2 n u0 a0 r24 = some r)
theorem brep_j2_M {n : Nat} {q : Nat} {a0 : List UInt8} {r24 : UInt64 × UInt64} {r : List UInt8 × Nat} (h : ∀ u0 : List UInt8, u0.length = q → brep_j2 n u0 a0 r24 = some r) : brep_j2_P n q a0 r24 r (brep_j2_E [] a0 r24) := ⟨rfl, h⟩
def brep_j1_E (u0 : List UInt8) (a0 : List UInt8) (a1 : Int) : S := ⟨[(0, .c (.wh 0)), (1, .c (.s (.k .i64 a1)))], [], [⟨(.ro false), 5, 1, a0.length, .b a0⟩]⟩
def brep_j1_P (n : Nat) (q : Nat) (a0 : List UInt8) (a1 : Int) (r : List UInt8 × Nat) : S → Prop := fun s => s = brep_j1_E [] a0 a1 ∧ (∀ u0 : List UInt8, u0.length = q → brep_j1 n u0 a0 a1 = some r)
theorem brep_j1_M {n : Nat} {q : Nat} {a0 : List UInt8} {a1 : Int} {r : List UInt8 × Nat} (h : ∀ u0 : List UInt8, u0.length = q → brep_j1 n u0 a0 a1 = some r) : brep_j1_P n q a0 a1 r (brep_j1_E [] a0 a1) := ⟨rfl, h⟩
def brep_R (r : List UInt8 × Nat) : S := ⟨[(4, .c (.wh 0))], [], [⟨(.ro true), 5, 1, r.2, .b r.1⟩]⟩
def brep_ct (n : Nat) (r : List UInt8 × Nat) : Ct := fun args H => match args with
 | [x0, x1] => (match aB H x0 with | some l0 => (match aI x1 with | some l1 => some ([l0.length = 1, 0 ≤ l1, l1 ≤ 200, ∀ u0 : List UInt8, u0.length = l1.toNat → brep n u0 l0 l1 = some r], shA H.length (.c (.wh 0)), shH H.length [⟨(.ro true), 5, 1, r.2, .b r.1⟩]) | none => none) | none => none)
 | _ => none
theorem brep_ok (n : Nat) (r : List UInt8 × Nat) : FnOk Tryd.prog Tr 54 (brep_ct n r) := by
 refine ⟨fun args H g av objs hF hg ρ w vals hG hp ha => ?_, _, Tryd.func54, by kernel_rfl, by kernel_rfl⟩
 obtain ⟨x0, x1, rfl⟩ : ∃ x0 x1, args = [x0, x1] := by
  unfold brep_ct at hF; split at hF
  ·exact ⟨_, _, rfl⟩
  ·cases hF
 cases e0 : aB H x0 with
 | none => simp only [brep_ct, e0, reduceCtorEq] at hF
 | some l0 =>
 cases e1 : aI x1 with
 | none => simp only [brep_ct, e0, e1, reduceCtorEq] at hF
 | some l1 =>
 simp only [brep_ct, e0, e1, Option.some.injEq, Prod.mk.injEq] at hF
 obtain ⟨rfl, rfl, rfl⟩ := hF
 obtain ⟨v0, vals, rfl, k0, ha⟩ := F2.inv ha
 obtain ⟨v1, vals, rfl, k1, ha⟩ := F2.inv ha
 obtain rfl := F2.inv0 ha
 have hI : ∀ w', Kp (noB (fun _ => undef)) w w' → Tr w' := fun _ hk => Tr.keep hk.below hG
 obtain ⟨hl1, hg⟩ := allP_cons.1 hg; obtain ⟨hb0, hg⟩ := allP_cons.1 hg; obtain ⟨hb1, hg⟩ := allP_cons.1 hg
 have h : ∀ u0 : List UInt8, u0.length = l1.toNat → brep n u0 l0 l1 = some r := hg
 have hz := List.length_replicate (n := l1.toNat) (a := (0 : UInt8))
 obtain ⟨p0, s0, o0⟩ := aB_ok hp e0 (k0) 5
 have s1 := aI_ok e1 (k1)
 have hR0 := rel0 (gv := (fun _ => undef)) (n := 77) (w := w) (args := [kH 0, kI l1]) (H := [⟨.ro false, 5, 1, l0.length, .b l0⟩]) (gl := []) (hpL (ps := [p0]) (F2.cons o0 F2.nil)) (allRo_ok rfl) (F2.cons s0 (F2.cons s1 F2.nil)) GlR.nil (by simp)
 clear ha hp hg k0 k1 e0 e1
 refine calls_W Tryd.func54 rfl rfl hR0 (Q := fun e s => (e = .ret ∨ e = .normal) ∧ s = brep_R r) ?_ ?_
 ·clear hR0
  simp only [brep] at h
  have hT := tabO_rep
  refine Vrs hT [0] ⟨[(0, kH 0), (1, kI l1)], [], [ob 5 l0]⟩ ?_
  refine W_seq ?_
  refine Vrs hT [0] ⟨[(0, kH 0), (1, kI l1), (13, kB (l1 == 0))], [], [ob 5 l0]⟩ ?_
  refine Vi ((l1 == 0)) (fun g20 => ?_) (fun g20 => ?_)
  ·replace h := fun u hu => bif_t (h u hu) g20
   refine Vrs hT [1] ⟨[(4, kH 0)], [], [⟨.row, 5, 1, 0, .b []⟩]⟩ ?_
   refine Vc [.vw 4 true] [1] (brep_R ([], 0)) (W_ret ?_)
   exact ⟨.inl rfl, by have h := h _ hz; cases h; rfl⟩
  ·replace h := fun u hu => bif_f (h u hu) g20
   refine Vc [] [0] ⟨[(0, kH 0), (1, kI l1)], [], [ob 5 l0]⟩ (W_skip ?_)
   refine W_join (brep_j1_P n l1.toNat l0 l1 r) ?_ ?_
   ·rintro _ ⟨rfl, h⟩
    simp only [brep_j1] at h
    refine W_seq ?_
    obtain ⟨r24, g1, _⟩ := bind_some' (h _ hz)
    replace h := fun u hu => bind_of (h u hu) g1
    have hm2 := bmul_m g1 hl1 hb0 hb1
    have hm : (IntKind.i64.wrap ((r24.2.toNat : Nat) : Int)).toNat = l1.toNat := by rw [hm2]; exact Int.toNat_natCast _
    refine Vg hT (fT 5 (bmul_ok n r24) fN) [] [] [0] ⟨[(0, kH 0), (5, kY r24.1), (6, kY r24.2)], [], [ob 5 l0]⟩ (aP g1 aN) ?_
    refine W_join (brep_j2_P n l1.toNat l0 r24 r) ?_ ?_
    ·rintro _ ⟨rfl, h⟩
     simp only [brep_j2] at h
     refine Vrs hT [0] ⟨[(0, kH 0), (7, kI (IntKind.i64.wrap ((r24.2.toNat : Nat) : Int)))], [], [ob 5 l0]⟩ ?_
     refine W_seq ?_
     refine Vrs hT [0] ⟨[(0, kH 0), (7, kI (IntKind.i64.wrap ((r24.2.toNat : Nat) : Int))), (38, kB (((l0.length : Nat) : Int) == 0))], [], [ob 5 l0]⟩ ?_
     refine Vi ((((l0.length : Nat) : Int) == 0)) (fun g16 => ?_) (fun g16 => ?_)
     ·replace h := fun u hu => bif_t (h u hu) g16
      refine Vrs hT [1] ⟨[(4, kH 0)], [], [⟨.row, 5, 1, 0, .b []⟩]⟩ ?_
      refine Vc [.vw 4 true] [1] (brep_R ([], 0)) (W_ret ?_)
      exact ⟨.inl rfl, by have h := h _ hz; cases h; rfl⟩
     ·replace h := fun u hu => bif_f (h u hu) g16
      refine W_skip ?_
      refine Vrs hT [0] ⟨[(0, kH 0), (7, kI (IntKind.i64.wrap ((r24.2.toNat : Nat) : Int))), (8, kI (IntKind.i64.wrap ((r24.2.toNat : Nat) : Int)))], [], [ob 5 l0]⟩ ?_
      refine W_join (brep_j3_P n l1.toNat l0 r24 r) ?_ ?_
      ·rintro _ ⟨i8_2, rfl, h⟩
       simp only [brep_j3] at h
       refine W_seq ?_
       have g2 := (gd_some (h _ hz)).1
       replace h := fun u hu => (gd_some (h u hu)).2
       have g3 := (gd_some (h _ hz)).1
       replace h := fun u hu => (gd_some (h u hu)).2
       have g4 := (gd_some (h _ hz)).1
       replace h := fun u hu => (gd_some (h u hu)).2
       refine W_mnz (pre := [_]) (ps := #[3]) (rt := 26) hT (fun _ => ftL_nil (J := Kp (noB (fun _ => undef)) w) 0) [] [] [0, 7, 8, 9] [0, 1] (s1 := ⟨[(53, kI (IntKind.i64.wrap ((r24.2.toNat : Nat) : Int))), (0, kH 0), (7, kI (IntKind.i64.wrap ((r24.2.toNat : Nat) : Int))), (8, kI i8_2)], [], [ob 5 l0]⟩) (by kernel_rfl) allP_nil (m := l1.toNat) (by rw [← hm2]; kernel_rfl) (by omega) Tryd.func77 (by kernel_rfl) (by kernel_rfl) (by kernel_rfl) (by kernel_rfl) Tryd.underlying26 (by decide) (by kernel_rfl) ?_
       intro u0 hu0
       have h := h u0 hu0
       refine ⟨_, ⟨[(0, kH 0), (7, kI (IntKind.i64.wrap ((r24.2.toNat : Nat) : Int))), (8, kI i8_2), (9, .c (.sl 1 0 ((IntKind.i64.wrap ((r24.2.toNat : Nat) : Int)).toNat)))], [], [ob 5 l0, ⟨.row, 5, 1, ((IntKind.i64.wrap ((r24.2.toNat : Nat) : Int))).toNat, .b u0⟩]⟩, by rw [← hm]; kernel_rfl, (allP_cons.2 ⟨g2, (allP_cons.2 ⟨g3, (allP_cons.2 ⟨g4, allP_nil⟩)⟩)⟩), ?_⟩
       refine Vrs hT [1] ⟨[(7, kI (IntKind.i64.wrap ((r24.2.toNat : Nat) : Int))), (8, kI i8_2), (9, .c (.sl 0 0 ((IntKind.i64.wrap ((r24.2.toNat : Nat) : Int)).toNat))), (10, .c (.s (.k .i64 (((min l0.length ((IntKind.i64.wrap ((r24.2.toNat : Nat) : Int)).toNat)) : Nat) : Int))))], [], [⟨.row, 5, 1, ((IntKind.i64.wrap ((r24.2.toNat : Nat) : Int))).toNat, .b ((u0.take 0 ++ l0.take (min l0.length ((IntKind.i64.wrap ((r24.2.toNat : Nat) : Int)).toNat))) ++ u0.drop (0 + (min l0.length ((IntKind.i64.wrap ((r24.2.toNat : Nat) : Int)).toNat))))⟩]⟩ ?_
       refine W_seq ?_
       refine W_block ?_
       refine Vc [] [0] (brep_l1_E r24 i8_2 ((u0.take 0 ++ l0.take (min l0.length ((IntKind.i64.wrap ((r24.2.toNat : Nat) : Int)).toNat))) ++ u0.drop (0 + (min l0.length ((IntKind.i64.wrap ((r24.2.toNat : Nat) : Int)).toNat)))) (((min l0.length ((IntKind.i64.wrap ((r24.2.toNat : Nat) : Int)).toNat)) : Nat) : Int)) (W_lp ((brep_l1_P n r24 i8_2 r)) n (brep_l1_M h) ?_)
       rintro fu_l1 _ ⟨l9_5, i10_2, rfl, h⟩
       cases fu_l1 with
       | zero => cases h
       | succ fu_l1 =>
        refine ⟨fu_l1, rfl, ?_⟩
        rw [brep_l1] at h
        refine W_seq ?_
        refine Vrs hT [0] ⟨[(7, kI (IntKind.i64.wrap ((r24.2.toNat : Nat) : Int))), (8, kI i8_2), (9, .c (.sl 0 0 ((IntKind.i64.wrap ((r24.2.toNat : Nat) : Int)).toNat))), (10, kI i10_2), (63, .c (.s (.b (decide (i10_2 < (IntKind.i64.wrap ((r24.2.toNat : Nat) : Int)))))))], [], [⟨.row, 5, 1, ((IntKind.i64.wrap ((r24.2.toNat : Nat) : Int))).toNat, .b l9_5⟩]⟩ ?_
        refine Vi ((decide (i10_2 < (IntKind.i64.wrap ((r24.2.toNat : Nat) : Int))))) (fun g10 => ?_) (fun g10 => ?_)
        ·replace h := bif_t h g10
         refine W_skip ?_
         refine W_block ?_
         refine Vrs hT [0] ⟨[(7, kI (IntKind.i64.wrap ((r24.2.toNat : Nat) : Int))), (8, kI i8_2), (9, .c (.sl 0 0 ((IntKind.i64.wrap ((r24.2.toNat : Nat) : Int)).toNat))), (10, kI i10_2), (11, kI (if i8_2 < i10_2 then i8_2 else i10_2))], [], [⟨.row, 5, 1, ((IntKind.i64.wrap ((r24.2.toNat : Nat) : Int))).toNat, .b l9_5⟩]⟩ ?_
         obtain ⟨g5, g6, g7, g8, g9, h⟩ := gd5 h
         refine W_regL hT fN (by kernel_rfl) 7 [0] [] [] [7, 8, 9, 10] [0] (s' := (brep_l1_E r24 i8_2 ((l9_5.take i10_2.toNat ++ ((l9_5.drop 0).take ((if i8_2 < i10_2 then i8_2 else i10_2).toNat)).take (min ((if i8_2 < i10_2 then i8_2 else i10_2).toNat) (((IntKind.i64.wrap ((r24.2.toNat : Nat) : Int)).toNat) - i10_2.toNat))) ++ l9_5.drop (i10_2.toNat + (min ((if i8_2 < i10_2 then i8_2 else i10_2).toNat) (((IntKind.i64.wrap ((r24.2.toNat : Nat) : Int)).toNat) - i10_2.toNat)))) (i10_2 + (((min ((if i8_2 < i10_2 then i8_2 else i10_2).toNat) (((IntKind.i64.wrap ((r24.2.toNat : Nat) : Int)).toNat) - i10_2.toNat)) : Nat) : Int)))) [(7, false), (8, false), (9, false), (10, false), (67, false), (70, false), (73, false)] [[(7, false), (8, false), (9, false), (10, false), (70, false), (73, false)]] (by kernel_rfl) ⟨_, (by kernel_rfl), (allP_cons.2 ⟨g5, (allP_cons.2 ⟨g6, (allP_cons.2 ⟨g7, (allP_cons.2 ⟨g8, (allP_cons.2 ⟨g9, allP_nil⟩)⟩)⟩)⟩)⟩)⟩ (fun sc hsc => match sc, hsc with | 0, _ => ⟨_, (by kernel_rfl), (allP_cons.2 ⟨g5, (allP_cons.2 ⟨g6, (allP_cons.2 ⟨g7, (allP_cons.2 ⟨g8, (allP_cons.2 ⟨g9, allP_nil⟩)⟩)⟩)⟩)⟩)⟩ | n + 1, h => absurd h (Nat.not_lt.2 (Nat.le_add_left 1 n))) ?_
         exact brep_l1_M h
        ·replace h := bif_f h g10
         refine Vc [] [0] ⟨[(9, .c (.sl 0 0 ((IntKind.i64.wrap ((r24.2.toNat : Nat) : Int)).toNat)))], [], [⟨.row, 5, 1, ((IntKind.i64.wrap ((r24.2.toNat : Nat) : Int))).toNat, .b l9_5⟩]⟩ (W_exit ?_)
         refine Vrs hT [0] ⟨[(4, .c (.sl 0 0 ((IntKind.i64.wrap ((r24.2.toNat : Nat) : Int)).toNat)))], [], [⟨.row, 5, 1, ((IntKind.i64.wrap ((r24.2.toNat : Nat) : Int))).toNat, .b l9_5⟩]⟩ ?_
         refine Vc [.vw 4 true] [1] (brep_R (((l9_5.drop 0).take ((IntKind.i64.wrap ((r24.2.toNat : Nat) : Int)).toNat)), (IntKind.i64.wrap ((r24.2.toNat : Nat) : Int)).toNat)) (W_ret ?_)
         exact ⟨.inl rfl, by cases h; rfl⟩
      ·refine W_seq ?_
       refine Vr hT [0] ⟨[(0, kH 0), (7, kI (IntKind.i64.wrap ((r24.2.toNat : Nat) : Int))), (8, kI (IntKind.i64.wrap ((r24.2.toNat : Nat) : Int))), (42, .c (.s (.b (decide ((8192 : Int) < (IntKind.i64.wrap ((r24.2.toNat : Nat) : Int)))))))], [], [ob 5 l0]⟩ ?_
       refine Vi ((decide ((8192 : Int) < (IntKind.i64.wrap ((r24.2.toNat : Nat) : Int))))) (fun g15 => ?_) (fun g15 => ?_)
       ·replace h := fun u hu => bif_t (h u hu) g15
        refine W_seq ?_
        have g11 := (gd_some (h _ hz)).1
        replace h := fun u hu => (gd_some (h u hu)).2
        have g12 := (gd_some (h _ hz)).1
        replace h := fun u hu => (gd_some (h u hu)).2
        have g13 := (gd_some (h _ hz)).1
        replace h := fun u hu => (gd_some (h u hu)).2
        refine Vg hT fN [] [] [0] ⟨[(0, kH 0), (7, kI (IntKind.i64.wrap ((r24.2.toNat : Nat) : Int))), (8, kI ((Int.tdiv 8192 ((l0.length : Nat) : Int)) * ((l0.length : Nat) : Int)))], [], [ob 5 l0]⟩ (aP g11 (aP g12 (aP g13 aN))) ?_
        refine Vrs hT [0] ⟨[(0, kH 0), (7, kI (IntKind.i64.wrap ((r24.2.toNat : Nat) : Int))), (8, kI ((Int.tdiv 8192 ((l0.length : Nat) : Int)) * ((l0.length : Nat) : Int))), (50, .c (.s (.b (((Int.tdiv 8192 ((l0.length : Nat) : Int)) * ((l0.length : Nat) : Int)) == 0))))], [], [ob 5 l0]⟩ ?_
        refine Vi ((((Int.tdiv 8192 ((l0.length : Nat) : Int)) * ((l0.length : Nat) : Int)) == 0)) (fun g14 => ?_) (fun g14 => ?_)
        ·replace h := fun u hu => bif_t (h u hu) g14
         refine Vr hT [0] (brep_j3_E [] l0 r24 ((l0.length : Nat) : Int)) ?_
         exact brep_j3_M h
        ·replace h := fun u hu => bif_f (h u hu) g14
         refine Vc [] [0] (brep_j3_E [] l0 r24 ((Int.tdiv 8192 ((l0.length : Nat) : Int)) * ((l0.length : Nat) : Int))) (W_skip ?_)
         exact brep_j3_M h
       ·replace h := fun u hu => bif_f (h u hu) g15
        refine Vc [] [0] (brep_j3_E [] l0 r24 (IntKind.i64.wrap ((r24.2.toNat : Nat) : Int))) (W_skip ?_)
        exact brep_j3_M h
    ·refine W_seq ?_
     rcases Bool.eq_false_or_eq_true (decide ((0 : UInt64) < r24.1)) with g17 | g17
     ·replace h := fun u hu => bif_t (h u hu) g17
      refine Vg hT fN [(2, true)] [] [0] ⟨[(0, kH 0), (6, kY r24.2), (32, kB true)], [], [ob 5 l0]⟩ (aP g17 aN) ?_
      refine Vi (true) (fun _ => ?_) (fun hb => by cases hb)
      exact absurd (h _ hz) (by simp)
     ·replace h := fun u hu => bif_f (h u hu) g17
      refine Vg hT fN [(2, false)] [] [0] ⟨[(0, kH 0), (6, kY r24.2), (32, kB (decide ((9223372036854775807 : UInt64) < r24.2)))], [], [ob 5 l0]⟩ (aP g17 aN) ?_
      refine Vi ((decide ((9223372036854775807 : UInt64) < r24.2))) (fun g18 => ?_) (fun g18 => ?_)
      ·replace h := fun u hu => bif_t (h u hu) g18
       exact absurd (h _ hz) (by simp)
      ·replace h := fun u hu => bif_f (h u hu) g18
       refine Vc [] [0] (brep_j2_E [] l0 r24) (W_skip ?_)
       exact brep_j2_M h
   ·refine W_seq ?_
    refine Vr hT [0] ⟨[(0, kH 0), (1, kI l1), (16, kB (decide (l1 < (0 : Int))))], [], [ob 5 l0]⟩ ?_
    refine Vi ((decide (l1 < (0 : Int)))) (fun g19 => ?_) (fun g19 => ?_)
    ·replace h := fun u hu => bif_t (h u hu) g19
     exact absurd (h _ hz) (by simp)
    ·replace h := fun u hu => bif_f (h u hu) g19
     refine Vc [] [0] (brep_j1_E [] l0 l1) (W_skip ?_)
     exact brep_j1_M h
 ·rintro e s' ⟨he, rfl⟩
  refine ⟨he, fun a' w' hr => ?_⟩
  exact retS_ok tabO_rep hr (rs := [.tmp 4]) rfl (objs := [0]) (by kernel_rfl)
def rep_ct : Ct := fun args H => match args with
 | [x0, x1] => (match aB H x0 with | some l0 => (match aI x1 with | some l1 => some ([l0.length = 1, 0 ≤ l1, l1 ≤ 200], .c (.wh H.length), [⟨(.ro true), 5, 1, l1.toNat, .b (List.replicate l1.toNat (l0.getD 0 0))⟩]) | none => none) | none => none)
 | _ => none
theorem rep_h : FnOk Tryd.prog Tr 54 rep_ct := by
 refine ⟨fun args H g av objs hF hg => ?_, (brep_ok 0 ([], 0)).fn⟩
 unfold rep_ct at hF
 split at hF
 ·rename_i x0 x1
  split at hF
  ·rename_i l0 h0
   split at hF
   ·rename_i l1 h1
    simp only [Option.some.injEq, Prod.mk.injEq] at hF
    obtain ⟨rfl, rfl, rfl⟩ := hF
    obtain ⟨a1, hg⟩ := allP_cons.1 hg; obtain ⟨a2, hg⟩ := allP_cons.1 hg; obtain ⟨a3, hg⟩ := allP_cons.1 hg
    obtain ⟨m, rfl⟩ := Int.eq_ofNat_of_zero_le a2
    match l0, a1 with
    | [x], _ =>
     refine (brep_ok 1000 (List.replicate m x, m)).ct [x0, x1] H [[x].length = 1, (0 : Int) ≤ m, (m : Int) ≤ 200, ∀ u0 : List UInt8, u0.length = (m : Int).toNat → brep 1000 u0 [x] m = some (List.replicate m x, m)] _ _ ?_ (allP_cons.2 ⟨rfl, allP_cons.2 ⟨a2, allP_cons.2 ⟨a3, allP_cons.2 ⟨fun u hu => brep_is (Nat.le_refl _) (by omega) x u (by simpa using hu), allP_nil⟩⟩⟩⟩)
     simp only [brep_ct, h0, h1]
     rfl
   ·cases hF
  ·cases hF
 ·cases hF
end Go.Proofs.YthichmclbiggmaaDoor
end
section
namespace Go.Proofs.YthichmclbiggmaaDoor
open Go.RowKit Go.Ch Go.Sx
set_option maxHeartbeats 400000 in
set_option maxRecDepth 100000 in
theorem pub_c (w : World) (A0 A1 A2 : Option Addr) (n0 n1 n2 c0 c1 c2 : Nat) :
  Calls Tryd.prog 19 #[.agg #[.slice A0 n0 c0, .slice A1 n1 c1, .slice A2 n2 c2]] w (Ret fun v' w' => Ext w w' ∧ v' = .agg #[.slice A0 n0 c0, .slice A1 n1 c1]) := by
 go_enter Tryd.func19, Tryd.ntmps19
 go_wp2
 refine ⟨rfl, .agg #[.slice A0 n0 c0, .slice A1 n1 c1], ?_, _, rfl, Below.alloc (Below.alloc (Below.refl _ _) (Nat.le_refl _) _) (by show w.heap.size ≤ (w.heap.push _).size; rw [Array.size_push]; exact Nat.le_succ _) _, rfl⟩
 ·have hres : Tryd.f19.results = #[.cell 2 40] := by kernel_rfl
  rw [results_rv, hres]
  have hb := Blk.new (w.alloc (Obj.cells #[Value.slice A0 n0 c0, Value.slice A1 n1 c1, Value.slice A2 n2 c2] 25)) 40 #[Value.slice A0 n0 c0, Value.slice A1 n1 c1]
  have hsz : (w.alloc (Obj.cells #[Value.slice A0 n0 c0, Value.slice A1 n1 c1, Value.slice A2 n2 c2] 25)).heap.size = w.heap.size + 1 := Array.size_push _
  rw [hsz] at hb
  have := run_loadVar_row _ _ _ 40 _ (0, 0) _ hb Tryd.underlying40 rfl (by kernel_rfl)
  simp [rvM, asAddr, this]
def pub_ct : Ct := fun args H => match args with
 | [.g 3 (.c [.wh i, .wh j, .wh k])] => some ([], .g 2 (.c [.wh i, .wh j]), [])
 | _ => none
theorem pub_h : FnOk Tryd.prog Tr 19 pub_ct := by
 refine ⟨fun args H g av objs hF hg ρ w vals hG hp ha => ?_, _, Tryd.func19, by kernel_rfl, by kernel_rfl⟩
 unfold pub_ct at hF
 split at hF
 ·rename_i i j k
  simp only [Option.some.injEq, Prod.mk.injEq] at hF
  obtain ⟨rfl, rfl, rfl⟩ := hF
  obtain ⟨v, vals, rfl, hk, ha⟩ := F2.inv ha
  obtain rfl := F2.inv0 ha
  obtain ⟨vs, hvs, _, rfl⟩ := hk
  obtain ⟨a, vs, rfl, ra, hvs⟩ := F2.uncons hvs
  obtain ⟨b, vs, rfl, rb, hvs⟩ := F2.uncons hvs
  obtain ⟨c, vs, rfl, rc, hvs⟩ := F2.uncons hvs
  obtain rfl := F2.unnil hvs
  rw [show a = _ from ra, show b = _ from rb, show c = _ from rc]
  refine calls_mono (pub_c w _ _ _ _ _ _ _ _ _) fun v w' ⟨hx, hv⟩ => ⟨hx, [], ⟨rfl, fun k o p ho => by simp at ho, ?_, fun k o p g ho => by simp at ho, fun k l o o' p p' g _ ho => by simp at ho⟩⟩
  subst hv
  have e : updL ρ H.length [] = ρ := by
   funext i; unfold updL; split <;> simp
  rw [e]
  exact ⟨[_, _], F2.cons rfl (F2.cons rfl F2.nil), rfl, rfl⟩
 ·cases hF
end Go.Proofs.YthichmclbiggmaaDoor
end
section
namespace Go.Proofs.YthichmclbiggmaaDoor
open Go.RowKit Go.Ch Go.Sx
def tabL_dc : List (TypeId × Ti) := [(3, ⟨.int .i64, 1, 8, true, some [.int .i64]⟩),
 (5, ⟨.int .u8, 1, 1, true, some [.int .u8]⟩),
 (9, ⟨.str, 1, 16, true, some [.str]⟩),
 (23, ⟨.sl 55, 1, 24, false, some [.nils]⟩),
 (25, ⟨.st [(23, 0), (23, 1), (23, 2)], 3, 72, false, some [.nils, .nils, .nils]⟩),
 (26, ⟨.sl 5, 1, 24, false, some [.nils]⟩),
 (31, ⟨.ifc, 1, 16, true, some [.ifc]⟩),
 (34, ⟨.int .i64, 1, 8, true, some [.int .i64]⟩),
 (40, ⟨.st [(23, 0), (23, 1)], 2, 48, false, some [.nils, .nils]⟩),
 (55, ⟨.int .u32, 1, 4, true, some [.int .u32]⟩),
 (90, ⟨.sl 26, 1, 24, false, some [.nils]⟩)]
def tab_dc : Tab := fun t => (tabL_dc).lookup t
theorem tabE_dc : (tabL_dc.map fun p => tiOf Tryd.prog p.1) = tabL_dc.map fun p => some p.2 := by kernel_rfl
theorem tabO_dc : TabOk Tryd.prog tab_dc := tab_of tabE_dc
def pRead_l1 (n : Nat) (l0_4 : List UInt8) (m0_4 : Nat) : Nat → List UInt32 → Int → Option (List UInt32 × Nat × Option Int)
 | 0, _, _ => none
 | fu_l1 + 1, w4_1, i30_1 =>
 bif (decide (i30_1 < ((m0_4 : Nat) : Int))) then
 gd (0 ≤ i30_1) <|
 gd (i30_1 < ((m0_4 : Nat) : Int)) <|
 gd (okI .i64 (((m0_4 : Nat) : Int) - 1)) <|
 gd (okI .i64 ((((m0_4 : Nat) : Int) - 1) - i30_1)) <|
 gd ((4 : Int) ≠ 0) <|
 gd (okI .i64 (Int.tdiv ((((m0_4 : Nat) : Int) - 1) - i30_1) 4)) <|
 gd (0 ≤ (Int.tdiv ((((m0_4 : Nat) : Int) - 1) - i30_1) 4)) <|
 gd ((Int.tdiv ((((m0_4 : Nat) : Int) - 1) - i30_1) 4) < (((Int.tdiv (((m0_4 : Nat) : Int) + 3) 4).toNat : Nat) : Int)) <|
 gd ((4 : Int) ≠ 0) <|
 gd (okI .i64 (8 * (Int.tmod ((((m0_4 : Nat) : Int) - 1) - i30_1) 4))) <|
 gd (0 ≤ (8 * (Int.tmod ((((m0_4 : Nat) : Int) - 1) - i30_1) 4))) <|
 gd (0 ≤ (Int.tdiv ((((m0_4 : Nat) : Int) - 1) - i30_1) 4)) <|
 gd ((Int.tdiv ((((m0_4 : Nat) : Int) - 1) - i30_1) 4) < (((Int.tdiv (((m0_4 : Nat) : Int) + 3) 4).toNat : Nat) : Int)) <|
 gd (okI .i64 (i30_1 + 1)) <|
 (pRead_l1 n l0_4 m0_4 fu_l1) (w4_1.set ((Int.tdiv ((((m0_4 : Nat) : Int) - 1) - i30_1) 4).toNat) ((w4_1.getD ((Int.tdiv ((((m0_4 : Nat) : Int) - 1) - i30_1) 4).toNat) 0) ||| (shl32 ((l0_4.getD i30_1.toNat 0).toUInt32) (8 * (Int.tmod ((((m0_4 : Nat) : Int) - 1) - i30_1) 4))))) (i30_1 + 1)
 else
 some (w4_1, (Int.tdiv (((m0_4 : Nat) : Int) + 3) 4).toNat, none)
def pRead_j1 (n : Nat) (l0_4 : List UInt8) (m0_4 : Nat) : Option (List UInt32 × Nat × Option Int) :=
 bif (decide ((256 : Int) < ((m0_4 : Nat) : Int))) then
 some ([], 0, (some 4))
 else
 gd (okI .i64 (((m0_4 : Nat) : Int) + 3)) <|
 gd ((4 : Int) ≠ 0) <|
 gd (okI .i64 (Int.tdiv (((m0_4 : Nat) : Int) + 3) 4)) <|
 gd (0 ≤ (Int.tdiv (((m0_4 : Nat) : Int) + 3) 4)) <|
 gd ((Int.tdiv (((m0_4 : Nat) : Int) + 3) 4) = (Int.tdiv (((m0_4 : Nat) : Int) + 3) 4)) <|
 gd (rmB ((Int.tdiv (((m0_4 : Nat) : Int) + 3) 4).toNat) 4) <|
 pRead_l1 n l0_4 m0_4 n (List.replicate ((Int.tdiv (((m0_4 : Nat) : Int) + 3) 4).toNat) 0) 0
def pRead_l2 (n : Nat) : Nat → List UInt8 → Nat → Option (List UInt32 × Nat × Option Int)
 | 0, _, _ => none
 | fu_l2 + 1, l0_5, m0_5 =>
 bif (decide ((0 : Int) < ((m0_5 : Nat) : Int))) then
 gd (0 ≤ (0 : Int)) <|
 gd ((0 : Int) < ((m0_5 : Nat) : Int)) <|
 bif ((l0_5.getD 0 0) == 0) then
 gd (0 ≤ (1 : Int)) <|
 gd ((1 : Int) ≤ ((m0_5 : Nat) : Int)) <|
 (pRead_l2 n fu_l2) ((l0_5.drop 1).take (m0_5 - 1)) (m0_5 - 1)
 else
 pRead_j1 n l0_5 m0_5
 else
 pRead_j1 n l0_5 m0_5
def pRead (n : Nat) (a0 : List UInt8) : Option (List UInt32 × Nat × Option Int) :=
 pRead_l2 n n a0 a0.length
def kpower (n : Nat) (a0 : List UInt8) (a1 : List UInt32) (a2 : List UInt32) : Option (List UInt8 × Nat × Bool) :=
 (ksize n a2).bind fun r14 =>
 (pRead n a0).bind fun r17 =>
 bif (!((r17.2.2).isNone)) then
  some ([], 0, false)
 else
  bif (((a0.length : Nat) : Int) != r14) then
   some ([], 0, false)
  else
   (pCmp n r17.1 a2).bind fun r31 =>
   bif (decide ((0 : Int) ≤ r31)) then
    some ([], 0, false)
   else
    (pExp n r17.1 a1 a2).bind fun r38 =>
    bif (!((r38.2).isNone)) then
     some ([], 0, false)
    else
     (pWrite n r38.1 r14).bind fun r46 =>
     some (r46.1, r46.2.1, (r46.2.2).isNone)
def kIndex_l1 (n : Nat) (a0 : List UInt8) (a1 : UInt8) : Nat → Int → Option (Int)
 | 0, _ => none
 | fu_l1 + 1, i8_2 =>
 bif (decide (i8_2 < ((a0.length : Nat) : Int))) then
 gd (0 ≤ i8_2) <|
 gd (i8_2 < ((a0.length : Nat) : Int)) <|
 bif (a1 == (a0.getD i8_2.toNat 0)) then
 some i8_2
 else
 gd (okI .i64 (i8_2 + 1)) <|
 (kIndex_l1 n a0 a1 fu_l1) (i8_2 + 1)
 else
 some (-1)
def kIndex (n : Nat) (a0 : List UInt8) (a1 : UInt8) : Option (Int) :=
 kIndex_l1 n a0 a1 n 0
def kContains (n : Nat) (a0 : List UInt8) (a1 : UInt8) : Option (Bool) :=
 (kIndex n a0 a1).bind fun r7 =>
 some (decide ((0 : Int) ≤ r7))
def kprefix (n : Nat) : Option (Unit) :=
 some ()
def klaid (n : Nat) (a0 : List UInt8) (a1 : Int) : Option (List UInt8) :=
 (kprefix n).bind fun r6 =>
 (gsum n a0).bind fun r8 =>
 gd ((([[48, 49, 48, 13, 6, 9, 96, 134, 72, 1, 101, 3, 4, 2, 1, 5, 0, 4, 32], r8] : List (List UInt8))).length ≤ 1000000) <|
 gd ((([[48, 49, 48, 13, 6, 9, 96, 134, 72, 1, 101, 3, 4, 2, 1, 5, 0, 4, 32], r8] : List (List UInt8))).flatten.length ≤ 1000000000) <|
 gd (okI .i64 (a1 - 3)) <|
 gd (okI .i64 ((a1 - 3) - ((((([[48, 49, 48, 13, 6, 9, 96, 134, 72, 1, 101, 3, 4, 2, 1, 5, 0, 4, 32], r8] : List (List UInt8))).flatten).length : Nat) : Int))) <|
 gd (([255] : List UInt8).length = 1) <|
 gd (0 ≤ ((a1 - 3) - ((((([[48, 49, 48, 13, 6, 9, 96, 134, 72, 1, 101, 3, 4, 2, 1, 5, 0, 4, 32], r8] : List (List UInt8))).flatten).length : Nat) : Int))) <|
 gd (((a1 - 3) - ((((([[48, 49, 48, 13, 6, 9, 96, 134, 72, 1, 101, 3, 4, 2, 1, 5, 0, 4, 32], r8] : List (List UInt8))).flatten).length : Nat) : Int)) ≤ 200) <|
 gd ((([[0, 1], (List.replicate (((a1 - 3) - ((((([[48, 49, 48, 13, 6, 9, 96, 134, 72, 1, 101, 3, 4, 2, 1, 5, 0, 4, 32], r8] : List (List UInt8))).flatten).length : Nat) : Int))).toNat (([255] : List UInt8).getD 0 0)), [0], ((([[48, 49, 48, 13, 6, 9, 96, 134, 72, 1, 101, 3, 4, 2, 1, 5, 0, 4, 32], r8] : List (List UInt8))).flatten)] : List (List UInt8))).length ≤ 1000000) <|
 gd ((([[0, 1], (List.replicate (((a1 - 3) - ((((([[48, 49, 48, 13, 6, 9, 96, 134, 72, 1, 101, 3, 4, 2, 1, 5, 0, 4, 32], r8] : List (List UInt8))).flatten).length : Nat) : Int))).toNat (([255] : List UInt8).getD 0 0)), [0], ((([[48, 49, 48, 13, 6, 9, 96, 134, 72, 1, 101, 3, 4, 2, 1, 5, 0, 4, 32], r8] : List (List UInt8))).flatten)] : List (List UInt8))).flatten.length ≤ 1000000000) <|
 some ((([[0, 1], (List.replicate (((a1 - 3) - ((((([[48, 49, 48, 13, 6, 9, 96, 134, 72, 1, 101, 3, 4, 2, 1, 5, 0, 4, 32], r8] : List (List UInt8))).flatten).length : Nat) : Int))).toNat (([255] : List UInt8).getD 0 0)), [0], ((([[48, 49, 48, 13, 6, 9, 96, 134, 72, 1, 101, 3, 4, 2, 1, 5, 0, 4, 32], r8] : List (List UInt8))).flatten)] : List (List UInt8))).flatten)
def kSign (n : Nat) (a0_0 : List UInt32) (a0_1 : List UInt32) (a0_2 : List UInt32) (a1 : List UInt8) : Option (List UInt8 × Nat × Option Int) :=
 (ksecret n a0_0 a0_1 a0_2).bind fun r10 =>
 bif (!((r10).isNone)) then
  some ([], 0, r10)
 else
  (ksize n a0_0).bind fun r18 =>
  (klaid n a1 r18).bind fun r19 =>
  (kpower n r19 a0_2 a0_0).bind fun r24 =>
  some (r24.1, r24.2.1, none)
def kHide (n : Nat) (a0_0 : List UInt32) (a0_1 : List UInt32) (a1 : List UInt8) (a2 : List UInt8) : Option (List UInt8 × Nat × Option Int) :=
 (kCheck n a0_0 a0_1).bind fun r13 =>
 bif (!((r13).isNone)) then
  some ([], 0, r13)
 else
  (ksize n a0_0).bind fun r19 =>
  gd (okI .i64 (r19 - 11)) <|
  bif (decide ((r19 - 11) < ((a1.length : Nat) : Int))) then
   some ([], 0, (some 4))
  else
   gd (okI .i64 (r19 - 3)) <|
   gd (okI .i64 ((r19 - 3) - ((a1.length : Nat) : Int))) <|
   bif (((a2.length : Nat) : Int) != ((r19 - 3) - ((a1.length : Nat) : Int))) then
    some ([], 0, (some 1))
   else
    (kContains n a2 0).bind fun r38 =>
    bif r38 then
     some ([], 0, (some 1))
    else
     gd ((([[0, 2], a2, [0], a1] : List (List UInt8))).length ≤ 1000000) <|
     gd ((([[0, 2], a2, [0], a1] : List (List UInt8))).flatten.length ≤ 1000000000) <|
     (kpower n ((([[0, 2], a2, [0], a1] : List (List UInt8))).flatten) a0_1 a0_0).bind fun r52 =>
     some (r52.1, r52.2.1, none)
def klight (n : Nat) (a0_0 : List UInt32) (a0_1 : List UInt32) (a0_2 : List UInt32) : Option (Bool) :=
 bif (decide (((a0_0.length : Nat) : Int) ≤ (70 : Int))) then
 bif (decide (((a0_1.length : Nat) : Int) ≤ (70 : Int))) then
 some (decide (((a0_2.length : Nat) : Int) ≤ (70 : Int)))
 else
 some false
 else
 some false
def kcut (n : Nat) (a0 : List UInt8) (a1 : Int) : Option (List UInt8 × Nat) :=
 bif (decide (a1 < ((a0.length : Nat) : Int))) then
 gd (0 ≤ a1) <|
 gd (a1 ≤ ((a0.length : Nat) : Int)) <|
 some (a0, a1.toNat)
 else
 some (a0, a0.length)
def pRead_l1_E (l0_4 : List UInt8) (m0_4 : Nat) (w4_1 : List UInt32) (i30_1 : Int) : S := ⟨[(0, kH 0), (4, kH 1), (28, kH 0), (29, kI ((m0_4 : Nat) : Int)), (30, kI i30_1)], [], [⟨(.ro false), 5, 1, m0_4, .b l0_4⟩, ⟨.row, 55, 1, (Int.tdiv (((m0_4 : Nat) : Int) + 3) 4).toNat, .w w4_1⟩]⟩
abbrev pRead_l1_P (n : Nat) (l0_4 : List UInt8) (m0_4 : Nat) (r : List UInt32 × Nat × Option Int) (fu : Nat) : S → Prop := fun s => ∃ (w4_1 : List UInt32), ∃ (i30_1 : Int), s = pRead_l1_E l0_4 m0_4 w4_1 i30_1 ∧ pRead_l1 n l0_4 m0_4 fu w4_1 i30_1 = some r
def pRead_j1_E (l0_4 : List UInt8) (m0_4 : Nat) : S := ⟨[(0, kH 0)], [], [⟨(.ro false), 5, 1, m0_4, .b l0_4⟩]⟩
abbrev pRead_j1_P (n : Nat) (r : List UInt32 × Nat × Option Int) : S → Prop := fun s => ∃ (l0_4 : List UInt8), ∃ (m0_4 : Nat), s = pRead_j1_E l0_4 m0_4 ∧ pRead_j1 n l0_4 m0_4 = some r
def pRead_l2_E (l0_5 : List UInt8) (m0_5 : Nat) : S := ⟨[(0, kH 0)], [], [⟨(.ro false), 5, 1, m0_5, .b l0_5⟩]⟩
abbrev pRead_l2_P (n : Nat) (r : List UInt32 × Nat × Option Int) (fu : Nat) : S → Prop := fun s => ∃ (l0_5 : List UInt8), ∃ (m0_5 : Nat), s = pRead_l2_E l0_5 m0_5 ∧ pRead_l2 n fu l0_5 m0_5 = some r
def pRead_R (r : List UInt32 × Nat × Option Int) : S := ⟨[(2, kH 0), (3, kE 34 r.2.2)], [], [⟨.row, 55, 1, r.2.1, .w r.1⟩]⟩
def pRead_ct (n : Nat) (r : List UInt32 × Nat × Option Int) : Ct := ctc (rB 5).rd fun _ l0 => ct0 fun H => ([pRead n l0 = some r], shA H.length (.t [.c (.wh 0), .c (.s (.er 34 .i64 r.2.2))]), shH H.length [⟨.row, 55, 1, r.2.1, .w r.1⟩])
theorem pRead_ok (n : Nat) (r : List UInt32 × Nat × Option Int) : FnOk Tryd.prog Tr 49 (pRead_ct n r) := by
 refine fnok Tryd.func49 ?_
 refine HO_c (rB 5) fun l0 _ => HO_0 tabO_dc (pRead_R r) [.tmp 2, .tmp 3] [0] 55 Tryd.func49 fun w hG h => ?_
 unfold pRead at h
 have hT := tabO_dc
 refine Vrs hT [0] ⟨[(0, kH 0)], [], [ob 5 l0]⟩ ?_
 refine W_join (pRead_j1_P n r) ?_ ?_
 ·rintro _ ⟨l0_4, m0_4, rfl, h⟩
  unfold pRead_j1 at h
  refine W_seq ?_
  refine Vrs hT [0] ⟨[(0, kH 0), (21, kB (decide ((256 : Int) < ((m0_4 : Nat) : Int))))], [], [⟨(.ro false), 5, 1, m0_4, .b l0_4⟩]⟩ ?_
  refine Vi ((decide ((256 : Int) < ((m0_4 : Nat) : Int)))) (fun g22 => ?_) (fun g22 => ?_)
  ·replace h := bif_t h g22
   refine Vrs hT [] ⟨[(2, .c (.nils)), (3, kE 34 (some 4))], [], []⟩ ?_
   refine Vc [.nil 2 55 1 (.w [])] [0] (pRead_R ([], 0, (some 4))) (W_ret ?_)
   exact ⟨.inl rfl, by cases h; rfl⟩
  ·replace h := bif_f h g22
   refine W_skip ?_
   obtain ⟨g1, g2, g3, g4, g5, h⟩ := gd5 h
   obtain ⟨g6, h⟩ := gd_some h
   refine Vgs hT fN [] [] [0, 1] ⟨[(0, kH 0), (4, kH 1)], [], [⟨(.ro false), 5, 1, m0_4, .b l0_4⟩, ⟨.row, 55, 1, (Int.tdiv (((m0_4 : Nat) : Int) + 3) 4).toNat, .w (List.replicate ((Int.tdiv (((m0_4 : Nat) : Int) + 3) 4).toNat) 0)⟩]⟩ (aP g1 (aP g2 (aP g3 (aP g4 (aP g5 (aP g6 aN)))))) ?_
   refine W_seq ?_
   refine Vrs hT [0, 1] ⟨[(0, kH 0), (4, kH 1), (28, kH 0), (29, kI ((m0_4 : Nat) : Int)), (30, kI 0)], [], [⟨(.ro false), 5, 1, m0_4, .b l0_4⟩, ⟨.row, 55, 1, (Int.tdiv (((m0_4 : Nat) : Int) + 3) 4).toNat, .w (List.replicate ((Int.tdiv (((m0_4 : Nat) : Int) + 3) 4).toNat) 0)⟩]⟩ ?_
   refine W_block ?_
   refine Vc [] [0, 1] (pRead_l1_E l0_4 m0_4 (List.replicate ((Int.tdiv (((m0_4 : Nat) : Int) + 3) 4).toNat) 0) 0) (W_lp ((pRead_l1_P n l0_4 m0_4 r)) n ⟨_, _, rfl, h⟩ ?_)
   rintro fu_l1 _ ⟨w4_1, i30_1, rfl, h⟩
   cases fu_l1 with
   | zero => cases h
   | succ fu_l1 =>
    refine ⟨fu_l1, rfl, ?_⟩
    rw [pRead_l1] at h
    refine Vrs hT [0, 1] ⟨[(0, kH 0), (4, kH 1), (28, kH 0), (29, kI ((m0_4 : Nat) : Int)), (30, kI i30_1), (31, kB (decide (i30_1 < ((m0_4 : Nat) : Int))))], [], [⟨(.ro false), 5, 1, m0_4, .b l0_4⟩, ⟨.row, 55, 1, (Int.tdiv (((m0_4 : Nat) : Int) + 3) 4).toNat, .w w4_1⟩]⟩ ?_
    refine W_seq ?_
    refine Vi ((decide (i30_1 < ((m0_4 : Nat) : Int)))) (fun g21 => ?_) (fun g21 => ?_)
    ·replace h := bif_t h g21
     refine W_skip ?_
     refine W_seq ?_
     refine W_block ?_
     obtain ⟨g7, g8, h⟩ := gd2 h
     refine Vgs hT fN [] [] [0, 1] ⟨[(0, kH 0), (4, kH 1), (5, kI i30_1), (6, kU (l0_4.getD i30_1.toNat 0)), (28, kH 0), (29, kI ((m0_4 : Nat) : Int)), (30, kI i30_1)], [], [⟨(.ro false), 5, 1, m0_4, .b l0_4⟩, ⟨.row, 55, 1, (Int.tdiv (((m0_4 : Nat) : Int) + 3) 4).toNat, .w w4_1⟩]⟩ (aP g7 (aP g8 aN)) ?_
     obtain ⟨g9, g10, h⟩ := gd2 h
     refine Vgs hT fN [] [] [0, 1] ⟨[(0, kH 0), (4, kH 1), (6, kU (l0_4.getD i30_1.toNat 0)), (7, kI ((((m0_4 : Nat) : Int) - 1) - i30_1)), (28, kH 0), (29, kI ((m0_4 : Nat) : Int)), (30, kI i30_1)], [], [⟨(.ro false), 5, 1, m0_4, .b l0_4⟩, ⟨.row, 55, 1, (Int.tdiv (((m0_4 : Nat) : Int) + 3) 4).toNat, .w w4_1⟩]⟩ (aP g9 (aP g10 aN)) ?_
     obtain ⟨g11, g12, g13, g14, g15, h⟩ := gd5 h
     obtain ⟨g16, g17, g18, g19, h⟩ := gd4 h
     refine Vd hT fN 11 [] [(0, false), (4, false), (28, false), (29, false), (30, false), (40, false), (42, false), (44, false), (50, false)] [] [0, 1] ⟨[(0, kH 0), (4, kH 1), (28, kH 0), (29, kI ((m0_4 : Nat) : Int)), (30, kI i30_1)], [], [⟨(.ro false), 5, 1, m0_4, .b l0_4⟩, ⟨.row, 55, 1, (Int.tdiv (((m0_4 : Nat) : Int) + 3) 4).toNat, .w (w4_1.set ((Int.tdiv ((((m0_4 : Nat) : Int) - 1) - i30_1) 4).toNat) ((w4_1.getD ((Int.tdiv ((((m0_4 : Nat) : Int) - 1) - i30_1) 4).toNat) 0) ||| (shl32 ((l0_4.getD i30_1.toNat 0).toUInt32) (8 * (Int.tmod ((((m0_4 : Nat) : Int) - 1) - i30_1) 4)))))⟩]⟩ (aP g11 (aP g12 (aP g13 (aP g14 (aP g15 (aP g16 (aP g17 (aP g18 (aP g19 aN))))))))) ?_
     obtain ⟨g20, h⟩ := gd_some h
     refine Vg hT fN [] [] [0, 1] (pRead_l1_E l0_4 m0_4 (w4_1.set ((Int.tdiv ((((m0_4 : Nat) : Int) - 1) - i30_1) 4).toNat) ((w4_1.getD ((Int.tdiv ((((m0_4 : Nat) : Int) - 1) - i30_1) 4).toNat) 0) ||| (shl32 ((l0_4.getD i30_1.toNat 0).toUInt32) (8 * (Int.tmod ((((m0_4 : Nat) : Int) - 1) - i30_1) 4))))) (i30_1 + 1)) (aP g20 aN) ?_
     exact ⟨_, _, rfl, h⟩
    ·replace h := bif_f h g21
     refine Vc [] [1] ⟨[(4, kH 0)], [], [⟨.row, 55, 1, (Int.tdiv (((m0_4 : Nat) : Int) + 3) 4).toNat, .w w4_1⟩]⟩ (W_exit ?_)
     refine Vrs hT [0] ⟨[(2, kH 0), (3, .c (.s (.v .nilIface)))], [], [⟨.row, 55, 1, (Int.tdiv (((m0_4 : Nat) : Int) + 3) 4).toNat, .w w4_1⟩]⟩ ?_
     refine Vc [.er 3 34 .i64] [0] (pRead_R (w4_1, (Int.tdiv (((m0_4 : Nat) : Int) + 3) 4).toNat, none)) (W_ret ?_)
     exact ⟨.inl rfl, by cases h; rfl⟩
 ·refine W_block ?_
  refine Vc [] [0] (pRead_l2_E l0 l0.length) (W_lp ((pRead_l2_P n r)) n ⟨_, _, rfl, h⟩ ?_)
  rintro fu_l2 _ ⟨l0_5, m0_5, rfl, h⟩
  cases fu_l2 with
  | zero => cases h
  | succ fu_l2 =>
   refine ⟨fu_l2, rfl, ?_⟩
   rw [pRead_l2] at h
   refine W_seq ?_
   refine W_seq ?_
   rcases Bool.eq_false_or_eq_true (decide ((0 : Int) < ((m0_5 : Nat) : Int))) with g23 | g23
   ·replace h := bif_t h g23
    obtain ⟨g24, g25, h⟩ := gd2 h
    refine Vg hT fN [(3, true)] [] [0] ⟨[(0, kH 0), (16, kB ((l0_5.getD 0 0) == 0))], [], [⟨(.ro false), 5, 1, m0_5, .b l0_5⟩]⟩ (aP g23 (aP g24 (aP g25 aN))) ?_
    refine Vi (((l0_5.getD 0 0) == 0)) (fun g28 => ?_) (fun g28 => ?_)
    ·replace h := bif_t h g28
     refine W_skip ?_
     refine W_block ?_
     obtain ⟨g26, g27, h⟩ := gd2 h
     refine Vg hT fN [] [.vw 0 false] [1] (pRead_l2_E ((l0_5.drop 1).take (m0_5 - 1)) (m0_5 - 1)) (aP g26 (aP g27 aN)) ?_
     exact ⟨_, _, rfl, h⟩
    ·replace h := bif_f h g28
     refine Vc [] [0] (pRead_j1_E l0_5 m0_5) (W_exit ?_)
     exact ⟨_, _, rfl, h⟩
   ·replace h := bif_f h g23
    refine Vg hT fN [(3, false)] [] [0] ⟨[(0, kH 0), (16, kB false)], [], [⟨(.ro false), 5, 1, m0_5, .b l0_5⟩]⟩ (aP g23 aN) ?_
    refine Vi (false) (fun hb => by cases hb) (fun _ => ?_)
    refine Vc [] [0] (pRead_j1_E l0_5 m0_5) (W_exit ?_)
    exact ⟨_, _, rfl, h⟩
def kpower_R (r : List UInt8 × Nat × Bool) : S := ⟨[(6, kH 0), (7, kB r.2.2)], [], [⟨.row, 5, 1, r.2.1, .b r.1⟩]⟩
def kpower_ct (n : Nat) (r : List UInt8 × Nat × Bool) : Ct := ctc (rB 5).rd fun _ l0 => ctc (rW 55).rd fun _ l1 => ctc (rW 55).rd fun _ l2 => ct0 fun H => ([kpower n l0 l1 l2 = some r], shA H.length (.t [.c (.wh 0), .c (.s (.b r.2.2))]), shH H.length [⟨.row, 5, 1, r.2.1, .b r.1⟩])
theorem kpower_ok (n : Nat) (r : List UInt8 × Nat × Bool) : FnOk Tryd.prog Tr 27 (kpower_ct n r) := by
 refine fnok Tryd.func27 ?_
 refine HO_c (rB 5) fun l0 _ => HO_c (rW 55) fun l1 _ => HO_c (rW 55) fun l2 _ => HO_0 tabO_dc (kpower_R r) [.tmp 6, .tmp 7] [0] 52 Tryd.func27 fun w hG h => ?_
 unfold kpower at h
 have hT := tabO_dc
 refine Vrs hT [0, 1, 2] ⟨[(0, kH 0), (1, kH 1), (2, kH 2)], [], [ob 5 l0, ow 55 l1, ow 55 l2]⟩ ?_
 obtain ⟨r14, g1, h⟩ := bind_some' h
 refine Vgs hT (fT 1 (ksize_ok n r14) fN) [] [] [0, 1, 2] ⟨[(0, kH 0), (1, kH 1), (2, kH 2), (8, kI r14)], [], [ob 5 l0, ow 55 l1, ow 55 l2]⟩ (aP g1 aN) ?_
 obtain ⟨r17, g2, h⟩ := bind_some' h
 refine Vgs hT (fT 1 (pRead_ok n r17) fN) [] [] [0, 1, 2, 3] ⟨[(0, kH 0), (1, kH 1), (2, kH 2), (8, kI r14), (9, kH 3), (10, kE 34 r17.2.2)], [], [ob 5 l0, ow 55 l1, ow 55 l2, ⟨.row, 55, 1, r17.2.1, .w r17.1⟩]⟩ (aP g2 aN) ?_
 refine W_seq ?_
 refine W_seq ?_
 rcases Bool.eq_false_or_eq_true (!((r17.2.2).isNone)) with g3 | g3
 ·replace h := bif_t h g3
  refine Vg hT fN [(2, true)] [] [1, 2, 3] ⟨[(1, kH 0), (2, kH 1), (8, kI r14), (9, kH 2), (33, kB true)], [], [ow 55 l1, ow 55 l2, ⟨.row, 55, 1, r17.2.1, .w r17.1⟩]⟩ (aP g3 aN) ?_
  refine Vi (true) (fun _ => ?_) (fun hb => by cases hb)
  refine Vrs hT [] ⟨[(6, .c (.nils)), (7, kB false)], [], []⟩ ?_
  refine Vc [.nil 6 5 1 (.b [])] [0] (kpower_R ([], 0, false)) (W_ret ?_)
  exact ⟨.inl rfl, by cases h; rfl⟩
 ·replace h := bif_f h g3
  rcases Bool.eq_false_or_eq_true (((l0.length : Nat) : Int) != r14) with g4 | g4
  ·replace h := bif_t h g4
   refine Vg hT fN [(2, false), (8, true)] [] [1, 2, 3] ⟨[(1, kH 0), (2, kH 1), (8, kI r14), (9, kH 2), (33, kB true)], [], [ow 55 l1, ow 55 l2, ⟨.row, 55, 1, r17.2.1, .w r17.1⟩]⟩ (aP g3 (aP g4 aN)) ?_
   refine Vi (true) (fun _ => ?_) (fun hb => by cases hb)
   refine Vrs hT [] ⟨[(6, .c (.nils)), (7, kB false)], [], []⟩ ?_
   refine Vc [.nil 6 5 1 (.b [])] [0] (kpower_R ([], 0, false)) (W_ret ?_)
   exact ⟨.inl rfl, by cases h; rfl⟩
  ·replace h := bif_f h g4
   obtain ⟨r31, g5, h⟩ := bind_some' h
   refine Vg hT (fT 11 (pCmp_ok n r31) fN) [(2, false), (8, false)] [] [1, 2, 3] ⟨[(1, kH 0), (2, kH 1), (8, kI r14), (9, kH 2), (33, kB (decide ((0 : Int) ≤ r31)))], [], [ow 55 l1, ow 55 l2, ⟨.row, 55, 1, r17.2.1, .w r17.1⟩]⟩ (aP g3 (aP g4 (aP g5 aN))) ?_
   refine Vi ((decide ((0 : Int) ≤ r31))) (fun g9 => ?_) (fun g9 => ?_)
   ·replace h := bif_t h g9
    refine Vrs hT [] ⟨[(6, .c (.nils)), (7, kB false)], [], []⟩ ?_
    refine Vc [.nil 6 5 1 (.b [])] [0] (kpower_R ([], 0, false)) (W_ret ?_)
    exact ⟨.inl rfl, by cases h; rfl⟩
   ·replace h := bif_f h g9
    refine W_skip ?_
    obtain ⟨r38, g6, h⟩ := bind_some' h
    refine Vgs hT (fT 3 (pExp_ok n r38) fN) [] [] [3] ⟨[(8, kI r14), (10, kE 34 r38.2), (11, kH 0)], [], [nw 55 r38.1]⟩ (aP g6 aN) ?_
    refine W_seq ?_
    refine Vrs hT [0] ⟨[(8, kI r14), (11, kH 0), (42, kB (!((r38.2).isNone)))], [], [nw 55 r38.1]⟩ ?_
    refine Vi ((!((r38.2).isNone))) (fun g8 => ?_) (fun g8 => ?_)
    ·replace h := bif_t h g8
     refine Vrs hT [] ⟨[(6, .c (.nils)), (7, kB false)], [], []⟩ ?_
     refine Vc [.nil 6 5 1 (.b [])] [0] (kpower_R ([], 0, false)) (W_ret ?_)
     exact ⟨.inl rfl, by cases h; rfl⟩
    ·replace h := bif_f h g8
     refine W_skip ?_
     obtain ⟨r46, g7, h⟩ := bind_some' h
     refine Vgs hT (fT 2 (pWrite_ok n r46) fN) [] [] [1] ⟨[(10, kE 34 r46.2.2), (12, kH 0)], [], [⟨.row, 5, 1, r46.2.1, .b r46.1⟩]⟩ (aP g7 aN) ?_
     refine Vds hT fN 4 [] [(6, false), (51, false)] [] [0] ⟨[(6, kH 0), (7, kB ((r46.2.2).isNone))], [], [⟨.row, 5, 1, r46.2.1, .b r46.1⟩]⟩ aN ?_
     refine Vc [] [0] (kpower_R (r46.1, r46.2.1, (r46.2.2).isNone)) (W_ret ?_)
     exact ⟨.inl rfl, by cases h; rfl⟩
def kIndex_l1_E (a0 : List UInt8) (a1 : UInt8) (i8_2 : Int) : S := ⟨[(0, kH 0), (1, kU a1), (7, kI ((a0.length : Nat) : Int)), (8, kI i8_2)], [], [ob 5 a0]⟩
abbrev kIndex_l1_P (n : Nat) (a0 : List UInt8) (a1 : UInt8) (r : Int) (fu : Nat) : S → Prop := fun s => ∃ (i8_2 : Int), s = kIndex_l1_E a0 a1 i8_2 ∧ kIndex_l1 n a0 a1 fu i8_2 = some r
def kIndex_R (r : Int) : S := ⟨[(4, kI r)], [], []⟩
def kIndex_ct (n : Nat) (r : Int) : Ct := ctc (rB 5).rd fun _ l0 => ctc rU8.rd fun _ l1 => ct0 fun H => ([kIndex n l0 l1 = some r], shA H.length (kI r), shH H.length [])
theorem kIndex_ok (n : Nat) (r : Int) : FnOk Tryd.prog Tr 41 (kIndex_ct n r) := by
 refine fnok Tryd.func41 ?_
 refine HO_c (rB 5) fun l0 _ => HO_c rU8 fun l1 _ => HO_0 tabO_dc (kIndex_R r) [.tmp 4] [] 19 Tryd.func41 fun w hG h => ?_
 unfold kIndex at h
 have hT := tabO_dc
 refine Vrs hT [0] ⟨[(0, kH 0), (1, kU l1)], [], [ob 5 l0]⟩ ?_
 refine W_seq ?_
 refine Vrs hT [0] ⟨[(0, kH 0), (1, kU l1), (7, kI ((l0.length : Nat) : Int)), (8, kI 0)], [], [ob 5 l0]⟩ ?_
 refine W_block ?_
 refine Vc [] [0] (kIndex_l1_E l0 l1 0) (W_lp ((kIndex_l1_P n l0 l1 r)) n ⟨_, rfl, h⟩ ?_)
 rintro fu_l1 _ ⟨i8_2, rfl, h⟩
 cases fu_l1 with
 | zero => cases h
 | succ fu_l1 =>
  refine ⟨fu_l1, rfl, ?_⟩
  rw [kIndex_l1] at h
  refine Vrs hT [0] ⟨[(0, kH 0), (1, kU l1), (7, kI ((l0.length : Nat) : Int)), (8, kI i8_2), (9, kB (decide (i8_2 < ((l0.length : Nat) : Int))))], [], [ob 5 l0]⟩ ?_
  refine W_seq ?_
  refine Vi ((decide (i8_2 < ((l0.length : Nat) : Int)))) (fun g5 => ?_) (fun g5 => ?_)
  ·replace h := bif_t h g5
   refine W_skip ?_
   refine W_seq ?_
   refine W_block ?_
   refine Vrs hT [0] ⟨[(0, kH 0), (1, kU l1), (5, kI i8_2), (7, kI ((l0.length : Nat) : Int)), (8, kI i8_2)], [], [ob 5 l0]⟩ ?_
   obtain ⟨g1, g2, h⟩ := gd2 h
   refine Vgs hT fN [] [] [0] ⟨[(0, kH 0), (1, kU l1), (5, kI i8_2), (7, kI ((l0.length : Nat) : Int)), (8, kI i8_2), (16, kB (l1 == (l0.getD i8_2.toNat 0)))], [], [ob 5 l0]⟩ (aP g1 (aP g2 aN)) ?_
   refine Vi ((l1 == (l0.getD i8_2.toNat 0))) (fun g4 => ?_) (fun g4 => ?_)
   ·replace h := bif_t h g4
    refine Vrs hT [] ⟨[(4, kI i8_2)], [], []⟩ ?_
    refine Vc [] [] (kIndex_R i8_2) (W_ret ?_)
    exact ⟨.inl rfl, by cases h; rfl⟩
   ·replace h := bif_f h g4
    refine W_skip ?_
    obtain ⟨g3, h⟩ := gd_some h
    refine Vg hT fN [] [] [0] (kIndex_l1_E l0 l1 (i8_2 + 1)) (aP g3 aN) ?_
    exact ⟨_, rfl, h⟩
  ·replace h := bif_f h g5
   refine Vc [] [] ⟨[], [], []⟩ (W_exit ?_)
   refine Vrs hT [] ⟨[(4, kI (-1))], [], []⟩ ?_
   refine Vc [] [] (kIndex_R (-1)) (W_ret ?_)
   exact ⟨.inl rfl, by cases h; rfl⟩
def kContains_R (r : Bool) : S := ⟨[(4, kB r)], [], []⟩
def kContains_ct (n : Nat) (r : Bool) : Ct := ctc (rB 5).rd fun _ l0 => ctc rU8.rd fun _ l1 => ct0 fun H => ([kContains n l0 l1 = some r], shA H.length (kB r), shH H.length [])
theorem kContains_ok (n : Nat) (r : Bool) : FnOk Tryd.prog Tr 38 (kContains_ct n r) := by
 refine fnok Tryd.func38 ?_
 refine HO_c (rB 5) fun l0 _ => HO_c rU8 fun l1 _ => HO_0 tabO_dc (kContains_R r) [.tmp 4] [] 9 Tryd.func38 fun w hG h => ?_
 unfold kContains at h
 have hT := tabO_dc
 refine Vrs hT [0] ⟨[(0, kH 0), (1, kU l1)], [], [ob 5 l0]⟩ ?_
 obtain ⟨r7, g1, h⟩ := bind_some' h
 refine Vgs hT (fT 2 (kIndex_ok n r7) fN) [] [] [] ⟨[(4, kB (decide ((0 : Int) ≤ r7)))], [], []⟩ (aP g1 aN) ?_
 refine Vc [] [] (kContains_R (decide ((0 : Int) ≤ r7))) (W_ret ?_)
 exact ⟨.inl rfl, by cases h; rfl⟩
def kprefix_R (r : Unit) : S := ⟨[(0, kH 0)], [], [nb 5 [48, 49, 48, 13, 6, 9, 96, 134, 72, 1, 101, 3, 4, 2, 1, 5, 0, 4, 32]]⟩
def kprefix_ct (n : Nat) (r : Unit) : Ct := ct0 fun H => ([kprefix n = some r], shA H.length (kH 0), shH H.length [nb 5 [48, 49, 48, 13, 6, 9, 96, 134, 72, 1, 101, 3, 4, 2, 1, 5, 0, 4, 32]])
theorem kprefix_ok (n : Nat) (r : Unit) : FnOk Tryd.prog Tr 52 (kprefix_ct n r) := by
 refine fnok Tryd.func52 ?_
 refine HO_0 tabO_dc (kprefix_R r) [.tmp 0] [0] 2 Tryd.func52 fun w hG h => ?_
 unfold kprefix at h
 have hT := tabO_dc
 refine Vrs hT [] ⟨[], [], []⟩ ?_
 refine Vrs hT [0] ⟨[(0, kH 0)], [], [⟨.row, 5, 1, 19, .b [48, 49, 48, 13, 6, 9, 96, 134, 72, 1, 101, 3, 4, 2, 1, 5, 0, 4, 32]⟩]⟩ ?_
 refine Vc [] [0] (kprefix_R ()) (W_ret ?_)
 exact ⟨.inl rfl, by cases h; rfl⟩
def klaid_R (r : List UInt8) : S := ⟨[(4, kH 0)], [], [nb 5 r]⟩
def klaid_ct (n : Nat) (r : List UInt8) : Ct := ctc (rB 5).rd fun _ l0 => ctc rI.rd fun _ l1 => ct0 fun H => ([klaid n l0 l1 = some r], shA H.length (kH 0), shH H.length [nb 5 r])
theorem klaid_ok (n : Nat) (r : List UInt8) : FnOk Tryd.prog GK 28 (klaid_ct n r) := by
 refine fnok Tryd.func28 ?_
 refine HO_c (rB 5) fun l0 _ => HO_c rI fun l1 _ => HO_0 tabO_dc (klaid_R r) [.tmp 4] [0] 23 Tryd.func28 fun w hG h => ?_
 have hI : ∀ w', Kp (noB (fun _ => undef)) w w' → GK w' := fun _ hk => GK.keep hk.below hG
 unfold klaid at h
 have hT := tabO_dc
 refine Vrs hT [0] ⟨[(0, kH 0), (1, kI l1)], [], [ob 5 l0]⟩ ?_
 obtain ⟨r6, g1, h⟩ := bind_some' h
 obtain ⟨r8, g2, h⟩ := bind_some' h
 obtain ⟨g3, g4, h⟩ := gd2 h
 refine Vgs hT (fT 0 (kprefix_ok n r6) (fI 2 (gsum_ok n r8) hI (fT 4 cat_h fN))) [] [] [4] ⟨[(1, kI l1), (5, kH 0)], [], [nb 5 ((([[48, 49, 48, 13, 6, 9, 96, 134, 72, 1, 101, 3, 4, 2, 1, 5, 0, 4, 32], r8] : List (List UInt8))).flatten)]⟩ (aP g1 (aP g2 (aP g3 (aP g4 aN)))) ?_
 obtain ⟨g5, g6, g7, g8, g9, h⟩ := gd5 h
 obtain ⟨g10, g11, h⟩ := gd2 h
 refine Vgs hT (fT 7 rep_h (fT 11 cat_h fN)) [] [] [6] ⟨[(4, kH 0)], [], [nb 5 ((([[0, 1], (List.replicate (((l1 - 3) - ((((([[48, 49, 48, 13, 6, 9, 96, 134, 72, 1, 101, 3, 4, 2, 1, 5, 0, 4, 32], r8] : List (List UInt8))).flatten).length : Nat) : Int))).toNat (([255] : List UInt8).getD 0 0)), [0], ((([[48, 49, 48, 13, 6, 9, 96, 134, 72, 1, 101, 3, 4, 2, 1, 5, 0, 4, 32], r8] : List (List UInt8))).flatten)] : List (List UInt8))).flatten)]⟩ (aP g5 (aP g6 (aP g7 (aP g8 (aP g9 (aP g10 (aP g11 aN))))))) ?_
 refine Vc [] [0] (klaid_R ((([[0, 1], (List.replicate (((l1 - 3) - ((((([[48, 49, 48, 13, 6, 9, 96, 134, 72, 1, 101, 3, 4, 2, 1, 5, 0, 4, 32], r8] : List (List UInt8))).flatten).length : Nat) : Int))).toNat (([255] : List UInt8).getD 0 0)), [0], ((([[48, 49, 48, 13, 6, 9, 96, 134, 72, 1, 101, 3, 4, 2, 1, 5, 0, 4, 32], r8] : List (List UInt8))).flatten)] : List (List UInt8))).flatten)) (W_ret ?_)
 exact ⟨.inl rfl, by cases h; rfl⟩
def kSign_R (r : List UInt8 × Nat × Option Int) : S := ⟨[(4, kH 0), (5, kE 34 r.2.2)], [], [⟨.row, 5, 1, r.2.1, .b r.1⟩]⟩
def kSign_ct (n : Nat) (r : List UInt8 × Nat × Option Int) : Ct := ctc (rSt (lC (cW 55) (lC (cW 55) (lC (cW 55) lN)))).rd fun _ y0 => ctc (rB 5).rd fun _ l1 => ct0 fun H => ([kSign n y0.1 y0.2.1 y0.2.2.1 l1 = some r], shA H.length (.t [.c (.wh 0), .c (.s (.er 34 .i64 r.2.2))]), shH H.length [⟨.row, 5, 1, r.2.1, .b r.1⟩])
theorem kSign_ok (n : Nat) (r : List UInt8 × Nat × Option Int) : FnOk Tryd.prog GK 11 (kSign_ct n r) := by
 refine fnok Tryd.func11 ?_
 refine HO_c (rSt (lC (cW 55) (lC (cW 55) (lC (cW 55) lN)))) fun p0 _ => ?_
 obtain ⟨l0_0, l0_1, l0_2, _⟩ := p0
 refine HO_c (rB 5) fun l1 _ => HO_0 tabO_dc (kSign_R r) [.tmp 4, .tmp 5] [0] 28 Tryd.func11 fun w hG h => ?_
 have hI : ∀ w', Kp (noB (fun _ => undef)) w w' → GK w' := fun _ hk => GK.keep hk.below hG
 have h : kSign n l0_0 l0_1 l0_2 l1 = some r := h
 unfold kSign at h
 have hT := tabO_dc
 refine Vrs hT [3, 4, 0, 1, 2] ⟨[(1, kH 0), (2, kP 1 0)], [], [ob 5 l1, ⟨.blk, 25, 1, 3, .c [.wh 2, .wh 3, .wh 4]⟩, ow 55 l0_0, ow 55 l0_1, ow 55 l0_2]⟩ ?_
 refine W_seq ?_
 obtain ⟨r10, g1, h⟩ := bind_some' h
 refine Vgs hT (fT 1 (ksecret_ok n r10) fN) [] [] [0, 1, 2, 3, 4] ⟨[(1, kH 0), (2, kP 1 0), (6, kE 34 r10)], [], [ob 5 l1, ⟨.blk, 25, 1, 3, .c [.wh 2, .wh 3, .wh 4]⟩, ow 55 l0_0, ow 55 l0_1, ow 55 l0_2]⟩ (aP g1 aN) ?_
 refine Vrs hT [0, 1, 2, 3, 4] ⟨[(1, kH 0), (2, kP 1 0), (6, kE 34 r10), (12, kB (!((r10).isNone)))], [], [ob 5 l1, ⟨.blk, 25, 1, 3, .c [.wh 2, .wh 3, .wh 4]⟩, ow 55 l0_0, ow 55 l0_1, ow 55 l0_2]⟩ ?_
 refine Vi ((!((r10).isNone))) (fun g5 => ?_) (fun g5 => ?_)
 ·replace h := bif_t h g5
  refine Vrs hT [] ⟨[(4, .c (.nils)), (5, kE 34 r10)], [], []⟩ ?_
  refine Vc [.nil 4 5 1 (.b [])] [0] (kSign_R ([], 0, r10)) (W_ret ?_)
  exact ⟨.inl rfl, by cases h; rfl⟩
 ·replace h := bif_f h g5
  refine W_skip ?_
  obtain ⟨r18, g2, h⟩ := bind_some' h
  obtain ⟨r19, g3, h⟩ := bind_some' h
  obtain ⟨r24, g4, h⟩ := bind_some' h
  refine Vds hT (fT 3 (ksize_ok n r18) (fI 4 (klaid_ok n r19) hI (fT 9 (kpower_ok n r24) fN))) 14 [] [(7, false), (26, false)] [] [5] ⟨[(7, kH 0)], [], [⟨.row, 5, 1, r24.2.1, .b r24.1⟩]⟩ (aP g2 (aP g3 (aP g4 aN))) ?_
  refine Vrs hT [0] ⟨[(4, kH 0), (5, .c (.s (.v .nilIface)))], [], [⟨.row, 5, 1, r24.2.1, .b r24.1⟩]⟩ ?_
  refine Vc [.er 5 34 .i64] [0] (kSign_R (r24.1, r24.2.1, none)) (W_ret ?_)
  exact ⟨.inl rfl, by cases h; rfl⟩
def kHide_R (r : List UInt8 × Nat × Option Int) : S := ⟨[(6, kH 0), (7, kE 34 r.2.2)], [], [⟨.row, 5, 1, r.2.1, .b r.1⟩]⟩
def kHide_ct (n : Nat) (r : List UInt8 × Nat × Option Int) : Ct := ctc (rSt (lC (cW 55) (lC (cW 55) lN))).rd fun _ y0 => ctc (rB 5).rd fun _ l1 => ctc (rB 5).rd fun _ l2 => ct0 fun H => ([kHide n y0.1 y0.2.1 l1 l2 = some r], shA H.length (.t [.c (.wh 0), .c (.s (.er 34 .i64 r.2.2))]), shH H.length [⟨.row, 5, 1, r.2.1, .b r.1⟩])
theorem kHide_ok (n : Nat) (r : List UInt8 × Nat × Option Int) : FnOk Tryd.prog Tr 18 (kHide_ct n r) := by
 refine fnok Tryd.func18 ?_
 refine HO_c (rSt (lC (cW 55) (lC (cW 55) lN))) fun p0 _ => ?_
 obtain ⟨l0_0, l0_1, _⟩ := p0
 refine HO_c (rB 5) fun l1 _ => HO_c (rB 5) fun l2 _ => HO_0 tabO_dc (kHide_R r) [.tmp 6, .tmp 7] [0] 56 Tryd.func18 fun w hG h => ?_
 have h : kHide n l0_0 l0_1 l1 l2 = some r := h
 unfold kHide at h
 have hT := tabO_dc
 refine Vrs hT [2, 3, 4, 0, 1] ⟨[(1, kH 0), (2, kH 1), (3, kP 2 0)], [], [ob 5 l1, ob 5 l2, ⟨.blk, 40, 1, 2, .c [.wh 3, .wh 4]⟩, ow 55 l0_0, ow 55 l0_1]⟩ ?_
 refine W_seq ?_
 obtain ⟨r13, g1, h⟩ := bind_some' h
 refine Vgs hT (fT 1 (kCheck_ok n r13) fN) [] [] [0, 1, 2, 3, 4] ⟨[(1, kH 0), (2, kH 1), (3, kP 2 0), (8, kE 34 r13)], [], [ob 5 l1, ob 5 l2, ⟨.blk, 40, 1, 2, .c [.wh 3, .wh 4]⟩, ow 55 l0_0, ow 55 l0_1]⟩ (aP g1 aN) ?_
 refine Vrs hT [0, 1, 2, 3, 4] ⟨[(1, kH 0), (2, kH 1), (3, kP 2 0), (8, kE 34 r13), (15, kB (!((r13).isNone)))], [], [ob 5 l1, ob 5 l2, ⟨.blk, 40, 1, 2, .c [.wh 3, .wh 4]⟩, ow 55 l0_0, ow 55 l0_1]⟩ ?_
 refine Vi ((!((r13).isNone))) (fun g13 => ?_) (fun g13 => ?_)
 ·replace h := bif_t h g13
  refine Vrs hT [] ⟨[(6, .c (.nils)), (7, kE 34 r13)], [], []⟩ ?_
  refine Vc [.nil 6 5 1 (.b [])] [0] (kHide_R ([], 0, r13)) (W_ret ?_)
  exact ⟨.inl rfl, by cases h; rfl⟩
 ·replace h := bif_f h g13
  refine W_skip ?_
  obtain ⟨r19, g2, h⟩ := bind_some' h
  refine Vgs hT (fT 2 (ksize_ok n r19) fN) [] [] [0, 1, 2, 3, 4] ⟨[(1, kH 0), (2, kH 1), (3, kP 2 0), (9, kI r19)], [], [ob 5 l1, ob 5 l2, ⟨.blk, 40, 1, 2, .c [.wh 3, .wh 4]⟩, ow 55 l0_0, ow 55 l0_1]⟩ (aP g2 aN) ?_
  refine W_seq ?_
  refine W_block ?_
  obtain ⟨g3, h⟩ := gd_some h
  refine Vgs hT fN [] [] [0, 1, 2, 3, 4] ⟨[(1, kH 0), (2, kH 1), (3, kP 2 0), (9, kI r19), (20, kB (decide ((r19 - 11) < ((l1.length : Nat) : Int))))], [], [ob 5 l1, ob 5 l2, ⟨.blk, 40, 1, 2, .c [.wh 3, .wh 4]⟩, ow 55 l0_0, ow 55 l0_1]⟩ (aP g3 aN) ?_
  refine Vi ((decide ((r19 - 11) < ((l1.length : Nat) : Int)))) (fun g12 => ?_) (fun g12 => ?_)
  ·replace h := bif_t h g12
   refine Vrs hT [] ⟨[(6, .c (.nils)), (7, kE 34 (some 4))], [], []⟩ ?_
   refine Vc [.nil 6 5 1 (.b [])] [0] (kHide_R ([], 0, (some 4))) (W_ret ?_)
   exact ⟨.inl rfl, by cases h; rfl⟩
  ·replace h := bif_f h g12
   refine W_seq ?_
   obtain ⟨g4, g5, h⟩ := gd2 h
   rcases Bool.eq_false_or_eq_true (((l2.length : Nat) : Int) != ((r19 - 3) - ((l1.length : Nat) : Int))) with g6 | g6
   ·replace h := bif_t h g6
    refine Vg hT fN [(8, true)] [] [0, 1, 2, 3, 4] ⟨[(1, kH 0), (2, kH 1), (3, kP 2 0), (27, kB true)], [], [ob 5 l1, ob 5 l2, ⟨.blk, 40, 1, 2, .c [.wh 3, .wh 4]⟩, ow 55 l0_0, ow 55 l0_1]⟩ (aP g4 (aP g5 (aP g6 aN))) ?_
    refine Vi (true) (fun _ => ?_) (fun hb => by cases hb)
    refine Vrs hT [] ⟨[(6, .c (.nils)), (7, kE 34 (some 1))], [], []⟩ ?_
    refine Vc [.nil 6 5 1 (.b [])] [0] (kHide_R ([], 0, (some 1))) (W_ret ?_)
    exact ⟨.inl rfl, by cases h; rfl⟩
   ·replace h := bif_f h g6
    obtain ⟨r38, g7, h⟩ := bind_some' h
    refine Vg hT (fT 10 (kContains_ok n r38) fN) [(8, false)] [] [0, 1, 2, 3, 4] ⟨[(1, kH 0), (2, kH 1), (3, kP 2 0), (27, kB r38)], [], [ob 5 l1, ob 5 l2, ⟨.blk, 40, 1, 2, .c [.wh 3, .wh 4]⟩, ow 55 l0_0, ow 55 l0_1]⟩ (aP g4 (aP g5 (aP g6 (aP g7 aN)))) ?_
    refine Vi (r38) (fun g11 => ?_) (fun g11 => ?_)
    ·replace h := bif_t h g11
     refine Vrs hT [] ⟨[(6, .c (.nils)), (7, kE 34 (some 1))], [], []⟩ ?_
     refine Vc [.nil 6 5 1 (.b [])] [0] (kHide_R ([], 0, (some 1))) (W_ret ?_)
     exact ⟨.inl rfl, by cases h; rfl⟩
    ·replace h := bif_f h g11
     refine Vc [] [0, 1, 2, 3, 4] ⟨[(1, kH 0), (2, kH 1), (3, kP 2 0)], [], [ob 5 l1, ob 5 l2, ⟨.blk, 40, 1, 2, .c [.wh 3, .wh 4]⟩, ow 55 l0_0, ow 55 l0_1]⟩ (W_skip ?_)
     refine W_seq ?_
     obtain ⟨g8, g9, h⟩ := gd2 h
     obtain ⟨r52, g10, h⟩ := bind_some' h
     refine W_regG hT (fT 5 cat_h (fT 10 (kpower_ok n r52) fN)) (by kernel_rfl) [] [1, 3, 6, 7, 8, 9, 11, 12, 13, 14, 15] [[1, 3, 6, 7, 8, 9], [0, 1, 3, 6, 7, 8, 9], [1, 2, 3, 6, 7, 8, 9], [0, 1, 2, 3, 6, 7, 8, 9], [0, 1, 2, 3, 4, 6, 7, 8, 9], [0, 1, 2, 3, 4, 5, 6, 7, 8, 9], [0, 1, 2, 3, 4, 5, 6, 7, 8, 9, 10, 11, 12, 13, 14, 15]] [⟨[(1, kH 0), (2, kH 1), (3, kP 2 0), (43, kH 1), (45, kH 0), (48, kP 2 1), (49, kH 4), (50, kP 2 0), (51, kH 3)], [], [ob 5 l1, ob 5 l2, ⟨.blk, 40, 1, 2, .c [.wh 3, .wh 4]⟩, ow 55 l0_0, ow 55 l0_1]⟩, ⟨[(1, kH 0), (2, kH 1), (3, kP 2 0), (42, kH 5), (43, kH 1), (45, kH 0), (48, kP 2 1), (49, kH 4), (50, kP 2 0), (51, kH 3)], [], [ob 5 l1, ob 5 l2, ⟨.blk, 40, 1, 2, .c [.wh 3, .wh 4]⟩, ow 55 l0_0, ow 55 l0_1, ⟨.row, 5, 1, 2, .b [0, 2]⟩]⟩, ⟨[(1, kH 0), (2, kH 1), (3, kP 2 0), (43, kH 1), (44, kH 5), (45, kH 0), (48, kP 2 1), (49, kH 4), (50, kP 2 0), (51, kH 3)], [], [ob 5 l1, ob 5 l2, ⟨.blk, 40, 1, 2, .c [.wh 3, .wh 4]⟩, ow 55 l0_0, ow 55 l0_1, ⟨.row, 5, 1, 1, .b [0]⟩]⟩, ⟨[(1, kH 0), (2, kH 1), (3, kP 2 0), (42, kH 5), (43, kH 1), (44, kH 6), (45, kH 0), (48, kP 2 1), (49, kH 4), (50, kP 2 0), (51, kH 3)], [], [ob 5 l1, ob 5 l2, ⟨.blk, 40, 1, 2, .c [.wh 3, .wh 4]⟩, ow 55 l0_0, ow 55 l0_1, ⟨.row, 5, 1, 2, .b [0, 2]⟩, ⟨.row, 5, 1, 1, .b [0]⟩]⟩, ⟨[(3, kP 0 0), (46, kH 3), (48, kP 0 1), (49, kH 2), (50, kP 0 0), (51, kH 1)], [], [⟨.blk, 40, 1, 2, .c [.wh 1, .wh 2]⟩, ow 55 l0_0, ow 55 l0_1, ⟨.row, 26, 1, 4, .c [.wh 4, .wh 5, .wh 6, .wh 7]⟩, ⟨.row, 5, 1, 2, .b [0, 2]⟩, ob 5 l2, ⟨.row, 5, 1, 1, .b [0]⟩, ob 5 l1]⟩, ⟨[(3, kP 0 0), (47, kH 3), (48, kP 0 1), (49, kH 2), (50, kP 0 0), (51, kH 1)], [], [⟨.blk, 40, 1, 2, .c [.wh 1, .wh 2]⟩, ow 55 l0_0, ow 55 l0_1, nb 5 ((([[0, 2], l2, [0], l1] : List (List UInt8))).flatten)]⟩, ⟨[(10, kH 0), (11, kB r52.2.2), (41, .t [.c (.wh 0), .c (.s (.b r52.2.2))]), (52, .t [.c (.wh 0), .c (.s (.b r52.2.2))]), (53, kH 0), (54, kB r52.2.2)], [], [⟨.row, 5, 1, r52.2.1, .b r52.1⟩]⟩] [1, 3, 6, 7, 8, 9] [⟨0, 0, 1, [], [], [1, 2, 3, 42, 43, 45, 48, 49, 50, 51], [0, 1, 2, 3, 4, 5]⟩, ⟨0, 2, 2, [], [], [1, 2, 3, 43, 44, 45, 48, 49, 50, 51], [0, 1, 2, 3, 4, 5]⟩, ⟨1, 2, 3, [], [], [1, 2, 3, 42, 43, 44, 45, 48, 49, 50, 51], [0, 1, 2, 3, 4, 5, 6]⟩, ⟨2, 0, 3, [], [], [1, 2, 3, 42, 43, 44, 45, 48, 49, 50, 51], [0, 1, 2, 3, 4, 6, 5]⟩, ⟨3, 4, 4, [], [], [3, 46, 48, 49, 50, 51], [2, 3, 4, 7, 5, 1, 6, 0]⟩, ⟨4, 5, 5, [], [], [3, 47, 48, 49, 50, 51], [0, 1, 2, 8]⟩, ⟨5, 10, 6, [11, 12, 13, 14, 15], [], [10, 11, 41, 52, 53, 54], [4]⟩] [(0, 1), (0, 3), (0, 6), (0, 7), (0, 8), (0, 9), (1, 1), (1, 3), (1, 6), (1, 7), (1, 8), (1, 9), (2, 1), (2, 3), (2, 6), (2, 7), (2, 8), (2, 9), (3, 1), (3, 3), (3, 6), (3, 7), (3, 8), (3, 9), (4, 6), (4, 7), (4, 8), (4, 9), (5, 6), (5, 7), (5, 8), (5, 9), (6, 11), (6, 12), (6, 13), (6, 14), (6, 15)] 6 [1, 2, 3, 43, 45, 48, 49, 50, 51] [0, 1, 2, 3, 4] [] [10] [0] (s' := ⟨[(10, kH 0)], [], [⟨.row, 5, 1, r52.2.1, .b r52.1⟩]⟩) (by kernel_rfl) ⟨_, (by kernel_rfl), allP_nil⟩ (AllE.cons ⟨_, (by kernel_rfl), allP_nil⟩ (AllE.cons ⟨_, (by kernel_rfl), allP_nil⟩ (AllE.cons ⟨_, (by kernel_rfl), allP_nil⟩ (AllE.cons ⟨_, (by kernel_rfl), allP_nil⟩ (AllE.cons ⟨_, (by kernel_rfl), allP_nil⟩ (AllE.cons ⟨_, (by kernel_rfl), (allP_cons.2 ⟨g8, (allP_cons.2 ⟨g9, allP_nil⟩)⟩)⟩ (AllE.cons ⟨_, (by kernel_rfl), (allP_cons.2 ⟨g10, allP_nil⟩)⟩ AllE.nil))))))) (AllR.cons ⟨_, (by kernel_rfl), allP_nil⟩ (AllR.cons ⟨_, (by kernel_rfl), allP_nil⟩ (AllR.cons ⟨_, (by kernel_rfl), allP_nil⟩ (AllR.cons ⟨_, (by kernel_rfl), allP_nil⟩ (AllR.cons ⟨_, (by kernel_rfl), allP_nil⟩ (AllR.cons ⟨_, (by kernel_rfl), allP_nil⟩ (AllR.cons ⟨_, (by kernel_rfl), allP_nil⟩ (AllR.cons ⟨_, (by kernel_rfl), allP_nil⟩ (AllR.cons ⟨_, (by kernel_rfl), allP_nil⟩ (AllR.cons ⟨_, (by kernel_rfl), allP_nil⟩ (AllR.cons ⟨_, (by kernel_rfl), allP_nil⟩ (AllR.cons ⟨_, (by kernel_rfl), allP_nil⟩ (AllR.cons ⟨_, (by kernel_rfl), allP_nil⟩ (AllR.cons ⟨_, (by kernel_rfl), allP_nil⟩ (AllR.cons ⟨_, (by kernel_rfl), allP_nil⟩ (AllR.cons ⟨_, (by kernel_rfl), allP_nil⟩ (AllR.cons ⟨_, (by kernel_rfl), allP_nil⟩ (AllR.cons ⟨_, (by kernel_rfl), allP_nil⟩ (AllR.cons ⟨_, (by kernel_rfl), allP_nil⟩ (AllR.cons ⟨_, (by kernel_rfl), allP_nil⟩ (AllR.cons ⟨_, (by kernel_rfl), allP_nil⟩ (AllR.cons ⟨_, (by kernel_rfl), allP_nil⟩ (AllR.cons ⟨_, (by kernel_rfl), allP_nil⟩ (AllR.cons ⟨_, (by kernel_rfl), allP_nil⟩ (AllR.cons ⟨_, (by kernel_rfl), allP_nil⟩ (AllR.cons ⟨_, (by kernel_rfl), allP_nil⟩ (AllR.cons ⟨_, (by kernel_rfl), allP_nil⟩ (AllR.cons ⟨_, (by kernel_rfl), allP_nil⟩ (AllR.cons ⟨_, (by kernel_rfl), allP_nil⟩ (AllR.cons ⟨_, (by kernel_rfl), allP_nil⟩ (AllR.cons ⟨_, (by kernel_rfl), allP_nil⟩ (AllR.cons ⟨_, (by kernel_rfl), allP_nil⟩ (AllR.cons ⟨_, (by kernel_rfl), allP_nil⟩ (AllR.cons ⟨_, (by kernel_rfl), allP_nil⟩ (AllR.cons ⟨_, (by kernel_rfl), allP_nil⟩ (AllR.cons ⟨_, (by kernel_rfl), allP_nil⟩ (AllR.cons ⟨_, (by kernel_rfl), allP_nil⟩ AllR.nil))))))))))))))))))))))))))))))))))))) (by kernel_rfl) ?_
     refine Vrs hT [0] ⟨[(6, kH 0), (7, .c (.s (.v .nilIface)))], [], [⟨.row, 5, 1, r52.2.1, .b r52.1⟩]⟩ ?_
     refine Vc [.er 7 34 .i64] [0] (kHide_R (r52.1, r52.2.1, none)) (W_ret ?_)
     exact ⟨.inl rfl, by cases h; rfl⟩
def klight_R (r : Bool) : S := ⟨[(2, kB r)], [], []⟩
def klight_ct (n : Nat) (r : Bool) : Ct := ctc (rSt (lC (cW 55) (lC (cW 55) (lC (cW 55) lN)))).rd fun _ y0 => ct0 fun H => ([klight n y0.1 y0.2.1 y0.2.2.1 = some r], shA H.length (kB r), shH H.length [])
theorem klight_ok (n : Nat) (r : Bool) : FnOk Tryd.prog Tr 9 (klight_ct n r) := by
 refine fnok Tryd.func9 ?_
 refine HO_c (rSt (lC (cW 55) (lC (cW 55) (lC (cW 55) lN)))) fun p0 _ => ?_
 obtain ⟨l0_0, l0_1, l0_2, _⟩ := p0
 refine HO_0 tabO_dc (klight_R r) [.tmp 2] [] 19 Tryd.func9 fun w hG h => ?_
 have h : klight n l0_0 l0_1 l0_2 = some r := h
 unfold klight at h
 have hT := tabO_dc
 refine Vrs hT [3, 0, 1, 2] ⟨[(1, kP 0 0)], [], [⟨.blk, 25, 1, 3, .c [.wh 1, .wh 2, .wh 3]⟩, ow 55 l0_0, ow 55 l0_1, ow 55 l0_2]⟩ ?_
 refine W_seq ?_
 rcases Bool.eq_false_or_eq_true (decide (((l0_0.length : Nat) : Int) ≤ (70 : Int))) with g1 | g1
 ·replace h := bif_t h g1
  rcases Bool.eq_false_or_eq_true (decide (((l0_1.length : Nat) : Int) ≤ (70 : Int))) with g2 | g2
  ·replace h := bif_t h g2
   refine Vg hT fN [(4, true), (10, true)] [] [] ⟨[(2, kB (decide (((l0_2.length : Nat) : Int) ≤ (70 : Int))))], [], []⟩ (aP g1 (aP g2 aN)) ?_
   refine Vc [] [] (klight_R (decide (((l0_2.length : Nat) : Int) ≤ (70 : Int)))) (W_ret ?_)
   exact ⟨.inl rfl, by cases h; rfl⟩
  ·replace h := bif_f h g2
   refine Vg hT fN [(4, true), (10, false)] [] [] ⟨[(2, kB false)], [], []⟩ (aP g1 (aP g2 aN)) ?_
   refine Vc [] [] (klight_R false) (W_ret ?_)
   exact ⟨.inl rfl, by cases h; rfl⟩
 ·replace h := bif_f h g1
  refine Vg hT fN [(4, false)] [] [] ⟨[(2, kB false)], [], []⟩ (aP g1 aN) ?_
  refine Vc [] [] (klight_R false) (W_ret ?_)
  exact ⟨.inl rfl, by cases h; rfl⟩
def kcut_R (r : List UInt8 × Nat) : S := ⟨[(4, .c (.sl 0 0 r.2))], [(1000000, kH 0)], [ob 5 r.1]⟩
def kcut_ct (n : Nat) (r : List UInt8 × Nat) : Ct := ctc aB fun x0 l0 => ctc (fun _ => aI) fun x1 l1 => ctl (fun H => subC 0 r.2 x0) fun ys => ct0 fun H => ([kcut n l0 l1 = some r], ys, [])
theorem kcut_ok (n : Nat) (r : List UInt8 × Nat) : FnOk Tryd.prog Tr 10 (kcut_ct n r) := by
 refine ⟨fun args H g av objs hF hg ρ w vals hG hp ha => ?_, _, Tryd.func10, by kernel_rfl, by kernel_rfl⟩
 obtain ⟨x0, _, l0, rfl, e0, hF⟩ := ctc_inv hF
 obtain ⟨x1, _, l1, rfl, e1, hF⟩ := ctc_inv hF
 obtain ⟨ys, e2, hF⟩ := ctl_inv hF
 obtain ⟨rfl, rfl, rfl, rfl⟩ := ct0_inv hF
 dsimp only
 obtain ⟨v0, vals, rfl, k0, ha⟩ := F2.inv ha
 obtain ⟨v1, vals, rfl, k1, ha⟩ := F2.inv ha
 obtain rfl := F2.inv0 ha
 have h : kcut n l0 l1 = some r := hg
 obtain ⟨p0, s0, o0⟩ := aB_ok hp e0 (k0) 5
 have s1 := aI_ok e1 (k1)
 have kk := k0
 have zz := aB_sz hp e0
 have hR0 := rel0 (gv := (fun j => ([v0, v1] : List Value).getD j undef)) (n := 13) (w := w) (args := [kH 0, kI l1]) (H := [⟨.ro false, 5, 1, l0.length, .b l0⟩]) (gl := [(1000000, .c (.wh 0))]) (hpL (ps := [p0]) (F2.cons o0 F2.nil)) (allRo_ok rfl) (F2.cons s0 (F2.cons s1 F2.nil)) (GlR.cons 0 s0 GlR.nil) (by simp)
 clear ha hp hg hF k0 k1 e0 e1
 refine calls_W Tryd.func10 rfl rfl hR0 (Q := fun e s => (e = .ret ∨ e = .normal) ∧ s = kcut_R r) ?_ ?_
 ·clear hR0
  unfold kcut at h
  have hT := tabO_dc
  refine Vrs hT [0] ⟨[(0, kH 0), (1, kI l1)], [(1000000, kH 0)], [ob 5 l0]⟩ ?_
  refine W_seq ?_
  refine Vrs hT [0] ⟨[(0, kH 0), (1, kI l1), (8, kB (decide (l1 < ((l0.length : Nat) : Int))))], [(1000000, kH 0)], [ob 5 l0]⟩ ?_
  refine Vi ((decide (l1 < ((l0.length : Nat) : Int)))) (fun g3 => ?_) (fun g3 => ?_)
  ·replace h := bif_t h g3
   obtain ⟨g1, g2, h⟩ := gd2 h
   refine Vgs hT fN [] [] [0] ⟨[(4, .c (.sl 0 0 l1.toNat))], [(1000000, kH 0)], [ob 5 l0]⟩ (aP g1 (aP g2 aN)) ?_
   refine Vc [] [0] (kcut_R (l0, l1.toNat)) (W_ret ?_)
   exact ⟨.inl rfl, by cases h; rfl⟩
  ·replace h := bif_f h g3
   refine W_skip ?_
   refine Vrs hT [0] ⟨[(4, kH 0)], [(1000000, kH 0)], [ob 5 l0]⟩ ?_
   refine Vc [.sb 4] [0] (kcut_R (l0, l0.length)) (W_ret ?_)
   exact ⟨.inl rfl, by cases h; rfl⟩
 ·rintro e s' ⟨he, rfl⟩
  refine ⟨he, fun a' w' hr => ?_⟩
  exact retB_ok (q := 0) hr rfl rfl rfl (by kernel_rfl) kk zz e2
end Go.Proofs.YthichmclbiggmaaDoor
end
section
namespace Go.Sx
open Go Go.RowKit Go.Ch Go.Proofs.YthichmclbiggmaaDoor
theorem getD_set_ne {α : Type} {z : α} (l : List α) {i k : Nat} (x : α) (h : i ≠ k) : (l.set i x).getD k z = l.getD k z := by
 rw [List.getD_eq_getElem?_getD, List.getD_eq_getElem?_getD, List.getElem?_set_ne h]
theorem getD_set_eq {α : Type} {z : α} (l : List α) {i : Nat} (x : α) (h : i < l.length) : (l.set i x).getD i z = x := by
 rw [List.getD_eq_getElem?_getD, List.getElem?_set_self h]; rfl
theorem roll_tab : ∀ k : Fin 32, 0 < k.val → ((UInt64.ofInt (-(k.val : Int))) &&& (31 : UInt64)).toNat = 32 - k.val ∧ ((32 : UInt64) - ((UInt64.ofInt (-(k.val : Int))) &&& (31 : UInt64))).toNat = k.val := by decide +kernel
theorem groll_is (n : Nat) (x : UInt32) {k : Nat} (h0 : 0 < k) (hk : k < 32) : groll n x (k : Int) = some (rotr x k) := by
 obtain ⟨e1, e2⟩ := roll_tab ⟨k, hk⟩ h0
 dsimp only at e1 e2
 unfold groll grot
 rw [gd_pos (okI64 (by omega) (by omega)), gd_pos (by omega), gd_pos (by omega), Option.bind_some, e1, e2]
 unfold shl32 shr32 rotr
 rw [if_pos (by omega), if_pos (by omega), Int.toNat_natCast, Int.toNat_natCast]
theorem ground_is (n : Nat) (V : Words) (x : UInt32) : ground n V.list x = some (roundOf V x).list := by
 have r : ∀ (y : UInt32) (k : Nat), 0 < k → k < 32 → groll n y (k : Int) = some (rotr y k) := fun y k h0 hk => groll_is n y h0 hk
 have r6 := fun y => r y 6 (by decide) (by decide)
 have r11 := fun y => r y 11 (by decide) (by decide)
 have r25 := fun y => r y 25 (by decide) (by decide)
 have r2 := fun y => r y 2 (by decide) (by decide)
 have r13 := fun y => r y 13 (by decide) (by decide)
 have r22 := fun y => r y 22 (by decide) (by decide)
 unfold ground
 simp only [show ((6 : Nat) : Int) = 6 from rfl, show ((11 : Nat) : Int) = 11 from rfl, show ((25 : Nat) : Int) = 25 from rfl, show ((2 : Nat) : Int) = 2 from rfl, show ((13 : Nat) : Int) = 13 from rfl, show ((22 : Nat) : Int) = 22 from rfl] at r6 r11 r25 r2 r13 r22
 rw [r6, r11, r25, r2, r13, r22]
 rfl
theorem gsched_l2_is (n : Nat) (bl : List UInt8) (hl : bl.length = 64) : ∀ (m i fu : Nat), i + m = 64 → 16 ≤ i → m < fu → gsched_l2 n fu (padW (extN (i - 16) (first16 bl))) (i : Int) = some (sched bl) := by
 intro m
 induction m with
 | zero =>
  intro i fu hi h16 hf
  obtain rfl : i = 64 := by omega
  cases fu with
  | zero => omega
  | succ fu => rw [gsched_l2, ite_f (by decide)]; rw [padW_full _ (by rw [length_extN, length_first16])]; rfl
 | succ m ih =>
  intro i fu hi h16 hf
  cases fu with
  | zero => omega
  | succ fu =>
   have r : ∀ (y : UInt32) (k : Nat), 0 < k → k < 32 → groll n y (k : Int) = some (rotr y k) := fun y k h0 hk => groll_is n y h0 hk
   have r7 : ∀ y, groll n y 7 = some (rotr y 7) := fun y => r y 7 (by decide) (by decide)
   have r18 : ∀ y, groll n y 18 = some (rotr y 18) := fun y => r y 18 (by decide) (by decide)
   have r17 : ∀ y, groll n y 17 = some (rotr y 17) := fun y => r y 17 (by decide) (by decide)
   have r19 : ∀ y, groll n y 19 = some (rotr y 19) := fun y => r y 19 (by decide) (by decide)
   have hlen : (extN (i - 16) (first16 bl)).length = i := by rw [length_extN, length_first16]; omega
   have e15 : ((i : Int) - 15).toNat = i - 15 := by omega
   have e2 : ((i : Int) - 2).toNat = i - 2 := by omega
   have e16 : ((i : Int) - 16).toNat = i - 16 := by omega
   have e7 : ((i : Int) - 7).toNat = i - 7 := by omega
   rw [gsched_l2, ite_t (by simp; omega), gd_pos (okI64 (by omega) (by omega)), gd_pos (by omega), gd_pos (by omega), gd_pos (okI64 (by omega) (by omega)), gd_pos (by omega), gd_pos (by omega), gd_pos (okI64 (by omega) (by omega)), gd_pos (by omega), gd_pos (by omega), r7, Option.bind_some, r18, Option.bind_some, gd_pos (by decide), gd_pos (okI64 (by omega) (by omega)), gd_pos (by omega), gd_pos (by omega), r17, Option.bind_some, r19, Option.bind_some, gd_pos (by decide), gd_pos (by omega), gd_pos (by omega), gd_pos (okI64 (by omega) (by omega)), e15, e2, e16, e7, Int.toNat_natCast]
   generalize hws : extN (i - 16) (first16 bl) = ws at hlen
   rw [getD_padW ws _ (by omega), getD_padW ws _ (by omega), getD_padW ws _ (by omega), getD_padW ws _ (by omega)]
   have key := extW_padW ws (by omega)
   have hn : nextW ws = (((ws.getD (i - 16) 0) + ((rotr (ws.getD (i - 15) 0) 7 ^^^ rotr (ws.getD (i - 15) 0) 18) ^^^ (shr32 (ws.getD (i - 15) 0) 3))) + (ws.getD (i - 7) 0)) + ((rotr (ws.getD (i - 2) 0) 17 ^^^ rotr (ws.getD (i - 2) 0) 19) ^^^ (shr32 (ws.getD (i - 2) 0) 10)) := by
    unfold nextW; rw [hlen]; rfl
   rw [hlen, hn] at key
   rw [key]
   have := ih (i + 1) fu (by omega) (by omega) (by omega)
   rw [show i + 1 - 16 = (i - 16) + 1 by omega, extN, hws] at this
   exact this
theorem gsched_l1_is (n : Nat) (hn : 100 ≤ n) (bl : List UInt8) (hl : bl.length = 64) : ∀ (m i fu : Nat), i + m = 64 → m < fu → gsched_l1 n bl fu (packW bl i) (i : Int) = some (sched bl) := by
 intro m
 induction m with
 | zero =>
  intro i fu hi hf
  obtain rfl : i = 64 := by omega
  cases fu with
  | zero => omega
  | succ fu =>
   rw [gsched_l1, ite_f (by decide), packW_all bl hl]
   have := gsched_l2_is n bl hl 48 16 n (by omega) (by omega) (by omega)
   have e : padW (extN (16 - 16) (first16 bl)) = first16 bl ++ Go.Ch.zeros 48 := by
    show padW (first16 bl) = _
    unfold padW; rw [length_first16]
   rw [e] at this
   exact this
 | succ m ih =>
  intro i fu hi hf
  cases fu with
  | zero => omega
  | succ fu =>
   have t1 : Int.tdiv (i : Int) 4 = ((i / 4 : Nat) : Int) := by rw [Int.tdiv_eq_ediv_of_nonneg (by omega)]; omega
   rw [gsched_l1, ite_t (by simp; omega), t1, gd_pos (by omega), gd_pos (by omega), gd_pos (by decide), gd_pos (okI64 (by omega) (by omega)), gd_pos (by decide), gd_pos (okI64 (by omega) (by omega)), gd_pos (by omega), gd_pos (by omega), gd_pos (by decide), gd_pos (by omega), gd_pos (by omega), gd_pos (okI64 (by omega) (by omega)), Int.toNat_natCast, Int.toNat_natCast]
   have e : ∀ (y : UInt32) (b : UInt8), ((shl32 y 8) ||| b.toUInt32) = wadd y b := fun y b => Go.Ch.or_byte y b
   rw [e, packW_step bl i (by omega) hl]
   exact ih (i + 1) fu (by omega) (by omega)
theorem gsched_is {n : Nat} (hn : 100 ≤ n) {bl : List UInt8} (hl : bl.length = 64) : gsched n bl = some (sched bl) := by
 have := gsched_l1_is n hn bl hl 64 0 n (by omega) (by omega)
 rw [packW_zero] at this
 exact this
theorem add8_is (f : Nat → List UInt32 → Int → Option (List UInt32)) (a : Words) (hf : ∀ fu w i, f (fu + 1) w i = bif decide (i < (8 : Int)) then gd (0 ≤ i) (gd (i < (8 : Int)) (gd (0 ≤ i) (gd (i < (8 : Int)) (gd (0 ≤ i) (gd (i < (8 : Int)) (gd (okI .i64 (i + 1)) (f fu (w.set i.toNat (w.getD i.toNat 0 + a.list.getD i.toNat 0)) (i + 1)))))))) else some w) (V : Words) :
  ∀ (m i fu : Nat) (w : List UInt32), i + m = 8 → m < fu → w.length = 8 → (∀ k, k < i → w.getD k 0 = V.list.getD k 0 + a.list.getD k 0) → (∀ k, i ≤ k → w.getD k 0 = V.list.getD k 0) → f fu w (i : Int) = some (addWords V a).list := by
 intro m
 induction m with
 | zero =>
  intro i fu w hi hfu hw h1 h2
  obtain rfl : i = 8 := by omega
  cases fu with
  | zero => omega
  | succ fu =>
   rw [hf, ite_f (by decide), lstE (0 : UInt32) hw]
   congr 1
   show [w.getD 0 0, w.getD 1 0, w.getD 2 0, w.getD 3 0, w.getD 4 0, w.getD 5 0, w.getD 6 0, w.getD 7 0] = _
   rw [h1 0 (by decide), h1 1 (by decide), h1 2 (by decide), h1 3 (by decide), h1 4 (by decide), h1 5 (by decide), h1 6 (by decide), h1 7 (by decide)]
   rfl
 | succ m ih =>
  intro i fu w hi hfu hw h1 h2
  cases fu with
  | zero => omega
  | succ fu =>
   rw [hf, ite_t (by simp; omega), gd_pos (by omega), gd_pos (by omega), gd_pos (by omega), gd_pos (by omega), gd_pos (by omega), gd_pos (by omega), gd_pos (okI64 (by omega) (by omega)), Int.toNat_natCast]
   refine ih (i + 1) fu _ (by omega) (by omega) (by rw [List.length_set]; exact hw) (fun k hk => ?_) (fun k hk => ?_)
   ·by_cases e : k = i
    ·subst e; rw [getD_set_eq _ _ (by omega), h2 k (Nat.le_refl _)]
    ·rw [getD_set_ne _ _ (by omega)]; exact h1 k (by omega)
   ·rw [getD_set_ne _ _ (by omega)]; exact h2 k (by omega)
theorem gpress_l1_is (n : Nat) (hn : 100 ≤ n) (V : Words) (ws : List UInt32) : ∀ (m i fu : Nat), i + m = 64 → m < fu → gpress_l1 n V.list ws fu (roundsN consts ws V i).list (i : Int) = some (addWords (roundsN consts ws V 64) V).list := by
 intro m
 induction m with
 | zero =>
  intro i fu hi hf
  obtain rfl : i = 64 := by omega
  cases fu with
  | zero => omega
  | succ fu =>
   rw [gpress_l1, ite_f (by decide)]
   exact add8_is (gpress_l2 n V.list) V (fun fu w i => by rw [gpress_l2]) _ 8 0 n _ (by omega) (by omega) rfl (fun k hk => by omega) (fun k _ => rfl)
 | succ m ih =>
  intro i fu hi hf
  cases fu with
  | zero => omega
  | succ fu =>
   rw [gpress_l1, ite_t (by simp; omega), gd_pos (by omega), gd_pos (by omega), gd_pos (by omega), gd_pos (by omega), Int.toNat_natCast, ground_is, Option.bind_some, gd_pos (okI64 (by omega) (by omega))]
   exact ih (i + 1) fu (by omega) (by omega)
theorem gpress_is {n : Nat} (hn : 100 ≤ n) (V : Words) {bl : List UInt8} (hl : bl.length = 64) : gpress n V.list bl = some (pressOf consts V bl).list := by
 unfold gpress
 rw [gsched_is hn hl, Option.bind_some]
 exact gpress_l1_is n hn V (sched bl) 64 0 n (by omega) (by omega)
theorem gtail_l1_is (n : Nat) (len : Nat) (hl : len ≤ 100000) (A : List UInt8) (hA : A.length ≤ 1000) : ∀ (m i fu : Nat), i + m = 8 → m < fu → gtail_l1 n (len : Int) fu (A ++ (lenB len).take i) (56 - 8 * (i : Int)) = some (A ++ lenB len, none) := by
 have hb : (lenB len).length = 8 := rfl
 intro m
 induction m with
 | zero =>
  intro i fu hi hf
  cases fu with
  | zero => omega
  | succ fu => rw [gtail_l1, ite_f (by simp; omega), List.take_of_length_le (by omega)]
 | succ m ih =>
  intro i fu hi hf
  cases fu with
  | zero => omega
  | succ fu =>
   have e1 : (56 - 8 * (i : Int)).toNat = 56 - 8 * i := by omega
   rw [gtail_l1, ite_t (by simp; omega), gd_pos (okI64 (by omega) (by omega)), gd_pos (by omega), gd_pos (by simp [IntKind.bits]; omega), gd_pos (by unfold rmB; simp; omega), gd_pos (okI64 (by omega) (by omega)), e1]
   have e2 : UInt8.ofInt ((8 * (len : Int)) / 2 ^ (56 - 8 * i)) = (lenB len).getD i 0 := by
    have : (lenB len).getD i 0 = UInt8.ofNat (8 * len / 2 ^ (56 - 8 * i)) := by
     unfold lenB
     rw [List.getD_eq_getElem?_getD, List.getElem?_map, List.getElem?_range (by omega)]; rfl
    rw [this]
    have h3 : (8 * (len : Int)) / 2 ^ (56 - 8 * i) = ((8 * len / 2 ^ (56 - 8 * i) : Nat) : Int) := by simp
    rw [h3]
    generalize 8 * len / 2 ^ (56 - 8 * i) = q
    refine UInt8.toNat_inj.1 ?_
    simp [UInt8.ofInt]
    omega
   have e3 : (A ++ (lenB len).take i) ++ [(lenB len).getD i 0] = A ++ (lenB len).take (i + 1) := by
    rw [List.append_assoc, List.take_succ_eq_append_getElem (by omega), List.getD_eq_getElem?_getD, List.getElem?_eq_getElem (by omega)]; rfl
   rw [e2, e3, show 56 - 8 * (i : Int) - 8 = 56 - 8 * ((i + 1 : Nat) : Int) by omega]
   exact ih (i + 1) fu (by omega) (by omega)
theorem gtail_l2_is (n : Nat) (hn : 200 ≤ n) (len : Nat) (hl : len ≤ 100000) : ∀ (m i fu : Nat), i + m = (119 - len % 64) % 64 → m < fu → gtail_l2 n (len : Int) fu ([128] ++ List.replicate i 0) = some (tailOf len, none) := by
 intro m
 induction m with
 | zero =>
  intro i fu hi hf
  cases fu with
  | zero => omega
  | succ fu =>
   have e : Int.tmod ((len : Int) + ((([128] ++ List.replicate i 0 : List UInt8).length : Nat) : Int) + 8) 64 = 0 := by
    rw [Int.tmod_eq_emod_of_nonneg (by omega)]; simp; omega
   rw [gtail_l2, gd_pos (okI64 (by simp; omega) (by simp; omega)), gd_pos (okI64 (by simp; omega) (by simp; omega)), gd_pos (by decide), ite_f (by rw [e]; rfl)]
   unfold gtail_j1
   have := gtail_l1_is n len hl ([128] ++ List.replicate i 0) (by simp; omega) 8 0 n (by omega) (by omega)
   rw [List.take_zero, List.append_nil] at this
   rw [show (56 : Int) = 56 - 8 * ((0 : Nat) : Int) by omega, this]
   unfold tailOf
   rw [show i = (119 - len % 64) % 64 by omega]
 | succ m ih =>
  intro i fu hi hf
  cases fu with
  | zero => omega
  | succ fu =>
   have e : Int.tmod ((len : Int) + ((([128] ++ List.replicate i 0 : List UInt8).length : Nat) : Int) + 8) 64 ≠ 0 := by
    rw [Int.tmod_eq_emod_of_nonneg (by omega)]; simp; omega
   rw [gtail_l2, gd_pos (okI64 (by simp; omega) (by simp; omega)), gd_pos (okI64 (by simp; omega) (by simp; omega)), gd_pos (by decide), ite_t (by simpa using e), gd_pos (by unfold rmB; simp; omega), List.append_assoc, show List.replicate i (0 : UInt8) ++ [0] = List.replicate (i + 1) 0 from List.replicate_succ'.symm]
   exact ih (i + 1) fu (by omega) (by omega)
theorem gtail_is {n : Nat} (hn : 200 ≤ n) {len : Nat} (hl : len ≤ 100000) : gtail n (len : Int) = some (tailOf len, none) := by
 unfold gtail
 rw [ite_f (by simp <;> omega), ite_f (by simp <;> omega)]
 exact gtail_l2_is n hn len hl ((119 - len % 64) % 64) 0 n (by omega) (by omega)
theorem gsum_l2_is (n : Nat) (w : List UInt32) (hw : w.length = 8) : ∀ (m j fu : Nat), j + m = 8 → m < fu → gsum_l2 n w fu ((w.take j).flatMap bytesOf) (j : Int) = some (w.flatMap bytesOf) := by
 intro m
 induction m with
 | zero =>
  intro j fu hj hf
  obtain rfl : j = 8 := by omega
  cases fu with
  | zero => omega
  | succ fu => rw [gsum_l2, ite_f (by simp), List.take_of_length_le (by omega)]
 | succ m ih =>
  intro j fu hj hf
  cases fu with
  | zero => omega
  | succ fu =>
   have hl : ∀ (l : List UInt32), (l.flatMap bytesOf).length = 4 * l.length := by
    intro l
    induction l with
    | nil => rfl
    | cons x l ih => simp only [List.flatMap_cons, List.length_append, ih, List.length_cons]; simp [bytesOf]; omega
   have hr : rmB (((w.take j).flatMap bytesOf).length + 4) 1 := by unfold rmB; rw [hl, List.length_take]; omega
   simp only [gsum_l2, Int.toNat_natCast]
   rw [ite_t (by simp; omega), gd_pos (by omega), gd_pos (by omega), gd_pos (by decide), gd_pos (by decide), gd_pos (by decide), gd_pos hr, gd_pos (okI64 (by omega) (by omega))]
   have := ih (j + 1) fu (by omega) (by omega)
   rw [Int.natCast_add, List.take_succ_eq_append_getElem (by omega), List.flatMap_append] at this
   rw [List.getD_eq_getElem?_getD, List.getElem?_eq_getElem (by omega)]
   have eb : ∀ x : UInt32, [(shr32 x 24).toUInt8, (shr32 x 16).toUInt8, (shr32 x 8).toUInt8, x.toUInt8] = bytesOf x := fun x => rfl
   rw [eb]
   simpa using this
theorem gsum_l1_is (n : Nat) (hn : 200 ≤ n) (a : List UInt8) (r : List UInt8 × Option Int) (V : Words) (A : List UInt8) (hA : a ++ r.1 = A) (q : Nat) (hq : A.length = 64 * q) (hA2 : A.length ≤ 1000000) :
  ∀ (m j fu : Nat), j + m = q → m < fu → gsum_l1 n a r fu (pressN consts V A j).list ((64 * j : Nat) : Int) = some ((pressN consts V A q).list.flatMap bytesOf) := by
 intro m
 induction m with
 | zero =>
  intro j fu hj hf
  obtain rfl : j = q := by omega
  cases fu with
  | zero => omega
  | succ fu =>
   simp only [gsum_l1, List.nil_append, Int.toNat_natCast, hA]
   rw [ite_f (by simp; omega)]
   exact gsum_l2_is n _ rfl 8 0 n (by omega) (by omega)
 | succ m ih =>
  intro j fu hj hf
  cases fu with
  | zero => omega
  | succ fu =>
   simp only [gsum_l1, List.nil_append, Int.toNat_natCast, hA]
   rw [ite_t (by simp; omega), gd_pos (by omega), gd_pos (by omega), gd_pos (by omega), gd_pos (by omega), gpress_is (by omega) _ (by rw [List.length_take, List.length_drop]; omega), Option.bind_some, gd_pos (okI64 (by omega) (by omega))]
   have h2 := ih (j + 1) fu (by omega) (by omega)
   rw [show ((64 * (j + 1) : Nat) : Int) = ((64 * j : Nat) : Int) + 64 by omega] at h2
   exact h2
theorem gsum_is {n : Nat} (hn : 100000 ≤ n) {a : List UInt8} (ha : a.length ≤ 100000) : gsum n a = some (digest consts begin8 a) := by
 have hl := length_tailOf a.length
 have hw := whole_tailOf a.length
 unfold gsum
 rw [gtail_is (by omega) ha, Option.bind_some, ite_f (by rfl)]
 dsimp only
 rw [gd_pos (by unfold rmB; omega), gd_pos (by unfold rmB; simp only [List.nil_append]; omega), show gbeg n = some () from rfl, Option.bind_some]
 have hlen : (a ++ tailOf a.length).length = 64 * ((a.length + (tailOf a.length).length) / 64) := by rw [List.length_append]; omega
 exact gsum_l1_is n (by omega) a (tailOf a.length, none) begin8 (a ++ tailOf a.length) rfl _ hlen (by rw [List.length_append]; omega) ((a.length + (tailOf a.length).length) / 64) 0 n (by omega) (by omega)
end Go.Sx
end
