import Derived.Test.YtliilihbnhdemaaZ2
import Derived.Test.YtliilihbnhdemaaProg
import Derived.Shelf.RegionOpenPlain
import Derived.WalkKit
import Derived.Lib.Walk
import Derived.Lib.SliceRun
import Derived.Lib.AppendZerosOnto
set_option linter.unusedVariables false
set_option linter.unusedSimpArgs false
section
namespace Go.Proofs.Ytliilihbnhdemaa
open Go.RowKit Go.Ch Go.Sx Go.Lib Go.Shelf Go.Proofs
theorem cat_u8W : (Try.prog.info? 89).map (fun i => (i.zero, i.size, i.bytes)) = some (some (.int .u32 0), 1, 4) := by kernel_rfl
set_option maxHeartbeats 2000000 in
set_option maxRecDepth 100000 in
theorem grow_0W (w : World) : Calls Try.prog 82 #[.slice none 0 0, .int .i64 0] w (Ret fun v w' => Ext w w' ∧ Own w' w.heap.size 89 v []) := by
 go_enter Try.func82, Try.ntmps82
 go_wp2
 go_ret
 exact ⟨_, rfl, Below.refl _ _, World.ownsRow_nil _ _ _ _⟩
set_option maxHeartbeats 4000000 in
set_option maxRecDepth 100000 in
theorem grow_1W (w : World) (n : Nat) (h0 : 0 < n) (hn : n ≤ 1000000000000) : Calls Try.prog 82 #[.slice none 0 0, .int .i64 n] w (Ret fun v w' => Ext w w' ∧ Own w' w.heap.size 89 v []) := by
 obtain ⟨i0, hi0, hz0, hs0, hb0⟩ := info_parts cat_u8W
 have t22 : Try.prog.underlying 60 = some (.slice 89) := Try.underlying60
 have t3 : Try.prog.underlying 3 = some (.int .i64) := Try.underlying3
 have u22 := run_underlying t22
 have u3 := run_underlying t3
 have h1 : ¬ ((n : Int) < 0) := by omega
 have h3 : wrap64 ((n : Int) - 0) = (n : Int) := by unfold wrap64; omega
 have h4 : (n : Int) > 0 := by omega
 have hold : (Builtin.firstCells i0.size 0 (.slice none 0 0)).run Try.prog w.drew = .ok (#[] : Array Value) w.drew := run_firstCells_none w.drew i0.size 0 0 0
 have hrz : ∀ ty, (Builtin.append_ #[60, 3] ty #[.slice none 0 0, .int .i64 (n : Int)]).run Try.prog w =
   .ok (.slice (some ⟨w.heap.size, 0, none⟩) n (grownCap w n 0 89)) (w.drew.alloc (.cells (#[] ++ Builtin.zeroCells (Value.cells (.int .u32 0)) n ++ Builtin.zeroCells (Value.cells (.int .u32 0)) (grownCap w n 0 89 - n)) 89)) := fun ty => by
  have h := Lib.run_append_grow_zeros w 60 3 ty 89 i0 (.int .u32 0) .i64 .i64 t22 t3 hi0 hz0 none 0 0 [] hold n (by omega) (by omega) (by omega) (by omega)
   (by rw [hb0]; omega)
   (by have := growslice_fits (show 0 < n from h0) (show n * i0.bytes ≤ 140737488355328 by rw [hb0]; omega); simpa using this)
  simpa using h
 have hGn : n ≤ grownCap w n 0 89 := grownCap_ge w _ _ _
 have hGm := grownCap_le_maxLen w n 0 89 (by unfold maxLen; omega)
 obtain ⟨G, hG⟩ : ∃ G, G = grownCap w n 0 89 := ⟨_, rfl⟩
 rw [← hG] at hrz hGn hGm
 have hG63 : G ≤ 9223372036854775807 := by unfold maxLen at hGm; omega
 clear hold hG
 go_enter Try.func82, Try.ntmps82
 go_wp2_with (at_builtin; refine Lib.wpList_append_run _ rfl _ _ _ _ rfl _ _ rfl rfl _ _ (hrz _) ?_)
 all_goals
  go_ret
  refine ⟨_, rfl, ?_, rfl, .inr ⟨w.heap.size, G, Builtin.zeroCells #[Value.int .u32 0] n ++ Builtin.zeroCells #[Value.int .u32 0] (G - n), rfl, Nat.le_refl _, ?_, Nat.zero_le _, hGm, ?_, ?_⟩⟩
  ·exact ((Below.refl _ _).alloc (Nat.le_refl _) _).drew
  ·show (w.heap.push _)[w.heap.size]? = _
   exact Array.getElem?_push_size
  ·have hz : ∀ k, (Builtin.zeroCells #[Value.int .u32 0] k).size = k := fun k => by simp [Builtin.zeroCells]
   rw [Array.size_append, hz, hz]; omega
  ·simp
theorem grow_cW (w : World) (n : Nat) (hn : n ≤ 1000000000000) : Calls Try.prog 82 #[.slice none 0 0, .int .i64 n] w (Ret fun v w' => Ext w w' ∧ Own w' w.heap.size 89 v []) := by
 cases n with
 | zero => exact grow_0W w
 | succ n => exact grow_1W w (n + 1) (Nat.succ_pos _) hn
theorem cat_slW : (Try.prog.info? 60).map (fun i => (i.zero, i.size, i.bytes)) = some (some (.slice none 0 0), 1, 24) := by kernel_rfl
def SlSW (w : World) (vs : List Value) (ls : List (List UInt32)) : Prop := vs.length = ls.length ∧ ∀ i, i < ls.length → ∃ B, Sl w B (vs.getD i undef) ((ls.getD i []).map w32)
theorem flat_takeW (ls : List (List UInt32)) (k : Nat) (h : k < ls.length) : (ls.take (k + 1)).flatten = (ls.take k).flatten ++ ls.getD k [] := by
 rw [List.take_succ_eq_append_getElem h, List.flatten_append, List.getD_eq_getElem?_getD, List.getElem?_eq_getElem h]; simp
theorem flat_leW (ls : List (List UInt32)) (k : Nat) : (ls.take k).flatten.length ≤ ls.flatten.length := by
 have : ls.flatten = (ls.take k).flatten ++ (ls.drop k).flatten := by rw [← List.flatten_append, List.take_append_drop]
 rw [this, List.length_append]; omega
theorem vgetW {vs : List Value} {k n : Nat} (hn : vs.length = n) (h : k < n) : vs[k]? = some (vs.getD k undef) := by
 rw [List.getD_eq_getElem?_getD, List.getElem?_eq_getElem (by omega)]; rfl
set_option maxHeartbeats 800000 in
theorem concat_cW (w : World) (B : Nat) (v : Value) (vs : List Value) (ls : List (List UInt32)) (hv : Sl w B v vs) (hvs : SlSW w vs ls) (hl : ls.length ≤ 1000000) (hb : ls.flatten.length ≤ 1000000000) :
  Calls Try.prog 67 #[v] w (Ret fun v' w' => Ext w w' ∧ Own w' w.heap.size 89 v' (ls.flatten.map w32)) := by
 obtain ⟨i89, hi89, hz89, hs89, hb89⟩ := info_parts cat_u8W
 obtain ⟨i60, hi60, hz60, hs60, hb60⟩ := info_parts cat_slW
 have hvl := hvs.1
 go_enter Try.func67, Try.ntmps67
 go_wp2_with (first
  | ((with_reducible refine g_at (d := 10) ?_); refine wpl_len rfl Try.underlying115 hv (by first | rw [List.length_map] | rfl) ?_; try (conv in (Act.put _ _ _) => simp only [Act.put, List.setIfInBounds_toArray, List.set_cons_succ, List.set_cons_zero]))
  | ((with_reducible refine g_at (d := 17) ?_); refine wpl_len rfl Try.underlying60 (by first | assumption | exact Own.sl (by assumption) | exact Sl.back (by first | assumption | exact Ext.drew' (by assumption) | exact Ext.undrew (by assumption)) (by first | assumption | exact Own.sl (by assumption) | exact Sl.back (by first | assumption | exact Ext.drew' (by assumption) | exact Ext.undrew (by assumption)) (by first | assumption | exact Own.sl (by assumption) | exact Sl.back (by first | assumption | exact Ext.drew' (by assumption) | exact Ext.undrew (by assumption)) (by first | assumption | exact Own.sl (by assumption) | exact Sl.back (by first | assumption | exact Ext.drew' (by assumption) | exact Ext.undrew (by assumption)) (by first | assumption | exact Own.sl (by assumption) | exact Sl.back (by first | assumption | exact Ext.drew' (by assumption) | exact Ext.undrew (by assumption)) (by first | assumption | exact Own.sl (by assumption) | exact Sl.back (by first | assumption | exact Ext.drew' (by assumption) | exact Ext.undrew (by assumption)) (by first | assumption | exact Own.sl (by assumption) | exact Sl.back (by first | assumption | exact Ext.drew' (by assumption) | exact Ext.undrew (by assumption)) (by first | assumption | exact Own.sl (by assumption))))))))) (by first | rw [List.length_map] | rfl) ?_; try (conv in (Act.put _ _ _) => simp only [Act.put, List.setIfInBounds_toArray, List.set_cons_succ, List.set_cons_zero]))
  | ((with_reducible refine g_at (d := 26) ?_); refine wpl_len rfl Try.underlying115 (by first | assumption | exact Own.sl (by assumption) | exact Sl.back (by first | assumption | exact Ext.drew' (by assumption) | exact Ext.undrew (by assumption)) (by first | assumption | exact Own.sl (by assumption) | exact Sl.back (by first | assumption | exact Ext.drew' (by assumption) | exact Ext.undrew (by assumption)) (by first | assumption | exact Own.sl (by assumption) | exact Sl.back (by first | assumption | exact Ext.drew' (by assumption) | exact Ext.undrew (by assumption)) (by first | assumption | exact Own.sl (by assumption) | exact Sl.back (by first | assumption | exact Ext.drew' (by assumption) | exact Ext.undrew (by assumption)) (by first | assumption | exact Own.sl (by assumption) | exact Sl.back (by first | assumption | exact Ext.drew' (by assumption) | exact Ext.undrew (by assumption)) (by first | assumption | exact Own.sl (by assumption) | exact Sl.back (by first | assumption | exact Ext.drew' (by assumption) | exact Ext.undrew (by assumption)) (by first | assumption | exact Own.sl (by assumption) | exact Sl.back (by first | assumption | exact Ext.drew' (by assumption) | exact Ext.undrew (by assumption)) (by first | assumption | exact Own.sl (by assumption))))))))) (by first | rw [List.length_map] | rfl) ?_; try (conv in (Act.put _ _ _) => simp only [Act.put, List.setIfInBounds_toArray, List.set_cons_succ, List.set_cons_zero])))
 rw [hvl]
 go_loopw [3, 11] (fun s i wr => ∃ k : Nat, k ≤ ls.length ∧ i = .int .i64 k ∧ s = .int .i64 (((ls.take k).flatten.length : Nat) : Int) ∧ Ext w wr) (fun _ i _ => ls.length - (RowKit.intOf i).toNat)
 case atStart => exact ⟨0, Nat.zero_le _, rfl, by simp, Below.refl _ _⟩
 case round =>
  obtain ⟨k, hk, rfl, rfl, hx⟩ := hrel
  by_cases hlt : k < ls.length
  ·obtain ⟨Bi, hsi⟩ := hvs.2 k hlt
   have hf := flat_takeW ls k hlt
   have hle := flat_leW ls (k + 1)
   generalize ls.getD k [] = x at *
   rw [hf, List.length_append] at hle
   have hg : (ls.take (k + 1)).flatten.length = (ls.take k).flatten.length + x.length := by rw [hf, List.length_append]
   have HF := Lib.hid hg
   clear hf hg
   generalize (ls.take k).flatten.length = S at *
   have hw : wrap64 ((S : Int) + (x.length : Int)) = (S : Int) + (x.length : Int) := by unfold wrap64; omega
   have hneg : ¬ ((S : Int) + (x.length : Int) < 0) := Int.not_lt.2 (Int.add_nonneg (Int.natCast_nonneg _) (Int.natCast_nonneg _))
   go_wp2_with (first
    | ((with_reducible refine g_at (d := 13) ?_); refine wpl_index rfl rfl Try.underlying115 hi60 hs60 (hv.ext hx) rfl (vgetW hvl hlt) ?_; intro ad13 hb13 hc13; try (conv in (Act.put _ _ _) => simp only [Act.put, List.setIfInBounds_toArray, List.set_cons_succ, List.set_cons_zero]))
    | ((with_reducible refine g_at (d := 14) ?_); refine wpl_load1 rfl Try.underlying60 rfl hc13 ?_; try (conv in (Act.put _ _ _) => simp only [Act.put, List.setIfInBounds_toArray, List.set_cons_succ, List.set_cons_zero]))
    | ((with_reducible refine g_at (d := 17) ?_); refine wpl_len rfl Try.underlying60 (hsi.ext hx) (by first | rw [List.length_map] | rfl) ?_; try (conv in (Act.put _ _ _) => simp only [Act.put, List.setIfInBounds_toArray, List.set_cons_succ, List.set_cons_zero]))
    | ((with_reducible refine g_at (d := 10) ?_); refine wpl_len rfl Try.underlying115 (by first | assumption | exact Own.sl (by assumption) | exact Sl.back (by first | assumption | exact Ext.drew' (by assumption) | exact Ext.undrew (by assumption)) (by first | assumption | exact Own.sl (by assumption) | exact Sl.back (by first | assumption | exact Ext.drew' (by assumption) | exact Ext.undrew (by assumption)) (by first | assumption | exact Own.sl (by assumption) | exact Sl.back (by first | assumption | exact Ext.drew' (by assumption) | exact Ext.undrew (by assumption)) (by first | assumption | exact Own.sl (by assumption) | exact Sl.back (by first | assumption | exact Ext.drew' (by assumption) | exact Ext.undrew (by assumption)) (by first | assumption | exact Own.sl (by assumption) | exact Sl.back (by first | assumption | exact Ext.drew' (by assumption) | exact Ext.undrew (by assumption)) (by first | assumption | exact Own.sl (by assumption) | exact Sl.back (by first | assumption | exact Ext.drew' (by assumption) | exact Ext.undrew (by assumption)) (by first | assumption | exact Own.sl (by assumption) | exact Sl.back (by first | assumption | exact Ext.drew' (by assumption) | exact Ext.undrew (by assumption)) (by first | assumption | exact Own.sl (by assumption))))))))) (by first | rw [List.length_map] | rfl) ?_; try (conv in (Act.put _ _ _) => simp only [Act.put, List.setIfInBounds_toArray, List.set_cons_succ, List.set_cons_zero]))
    | ((with_reducible refine g_at (d := 26) ?_); refine wpl_len rfl Try.underlying115 (by first | assumption | exact Own.sl (by assumption) | exact Sl.back (by first | assumption | exact Ext.drew' (by assumption) | exact Ext.undrew (by assumption)) (by first | assumption | exact Own.sl (by assumption) | exact Sl.back (by first | assumption | exact Ext.drew' (by assumption) | exact Ext.undrew (by assumption)) (by first | assumption | exact Own.sl (by assumption) | exact Sl.back (by first | assumption | exact Ext.drew' (by assumption) | exact Ext.undrew (by assumption)) (by first | assumption | exact Own.sl (by assumption) | exact Sl.back (by first | assumption | exact Ext.drew' (by assumption) | exact Ext.undrew (by assumption)) (by first | assumption | exact Own.sl (by assumption) | exact Sl.back (by first | assumption | exact Ext.drew' (by assumption) | exact Ext.undrew (by assumption)) (by first | assumption | exact Own.sl (by assumption) | exact Sl.back (by first | assumption | exact Ext.drew' (by assumption) | exact Ext.undrew (by assumption)) (by first | assumption | exact Own.sl (by assumption) | exact Sl.back (by first | assumption | exact Ext.drew' (by assumption) | exact Ext.undrew (by assumption)) (by first | assumption | exact Own.sl (by assumption))))))))) (by first | rw [List.length_map] | rfl) ?_; try (conv in (Act.put _ _ _) => simp only [Act.put, List.setIfInBounds_toArray, List.set_cons_succ, List.set_cons_zero])))
   go_roundw
   case rel => exact ⟨k + 1, by omega, by go_num, by rw [HF.out]; go_num, hx⟩
   case measure => simp [RowKit.intOf]; omega
  ·obtain rfl : k = ls.length := by omega
   rw [List.take_length]
   have HB := Lib.hid hb
   generalize hS : ls.flatten.length = S at *
   have HS := Lib.hid hS
   clear hS
   go_wp2_with (first
    | ((with_reducible refine g_at (d := 24) ?_); refine wpl_call Try.func82 (by kernel_rfl) (by kernel_rfl) rfl (grow_cW wr S (Nat.le_trans HB.out (by decide))) ?_; rintro v24 w24 ⟨hx24, h24⟩; try (conv in (Act.put _ _ _) => simp only [Act.put, List.setIfInBounds_toArray, List.set_cons_succ, List.set_cons_zero]))
    | ((with_reducible refine g_at (d := 26) ?_); refine wpl_len rfl Try.underlying115 (hv.ext (hx.tr hx24)) (by first | rw [List.length_map] | rfl) ?_; try (conv in (Act.put _ _ _) => simp only [Act.put, List.setIfInBounds_toArray, List.set_cons_succ, List.set_cons_zero]))
    | ((with_reducible refine g_at (d := 10) ?_); refine wpl_len rfl Try.underlying115 (by first | assumption | exact Own.sl (by assumption) | exact Sl.back (by first | assumption | exact Ext.drew' (by assumption) | exact Ext.undrew (by assumption)) (by first | assumption | exact Own.sl (by assumption) | exact Sl.back (by first | assumption | exact Ext.drew' (by assumption) | exact Ext.undrew (by assumption)) (by first | assumption | exact Own.sl (by assumption) | exact Sl.back (by first | assumption | exact Ext.drew' (by assumption) | exact Ext.undrew (by assumption)) (by first | assumption | exact Own.sl (by assumption) | exact Sl.back (by first | assumption | exact Ext.drew' (by assumption) | exact Ext.undrew (by assumption)) (by first | assumption | exact Own.sl (by assumption) | exact Sl.back (by first | assumption | exact Ext.drew' (by assumption) | exact Ext.undrew (by assumption)) (by first | assumption | exact Own.sl (by assumption) | exact Sl.back (by first | assumption | exact Ext.drew' (by assumption) | exact Ext.undrew (by assumption)) (by first | assumption | exact Own.sl (by assumption) | exact Sl.back (by first | assumption | exact Ext.drew' (by assumption) | exact Ext.undrew (by assumption)) (by first | assumption | exact Own.sl (by assumption))))))))) (by first | rw [List.length_map] | rfl) ?_; try (conv in (Act.put _ _ _) => simp only [Act.put, List.setIfInBounds_toArray, List.set_cons_succ, List.set_cons_zero]))
    | ((with_reducible refine g_at (d := 17) ?_); refine wpl_len rfl Try.underlying60 (by first | assumption | exact Own.sl (by assumption) | exact Sl.back (by first | assumption | exact Ext.drew' (by assumption) | exact Ext.undrew (by assumption)) (by first | assumption | exact Own.sl (by assumption) | exact Sl.back (by first | assumption | exact Ext.drew' (by assumption) | exact Ext.undrew (by assumption)) (by first | assumption | exact Own.sl (by assumption) | exact Sl.back (by first | assumption | exact Ext.drew' (by assumption) | exact Ext.undrew (by assumption)) (by first | assumption | exact Own.sl (by assumption) | exact Sl.back (by first | assumption | exact Ext.drew' (by assumption) | exact Ext.undrew (by assumption)) (by first | assumption | exact Own.sl (by assumption) | exact Sl.back (by first | assumption | exact Ext.drew' (by assumption) | exact Ext.undrew (by assumption)) (by first | assumption | exact Own.sl (by assumption) | exact Sl.back (by first | assumption | exact Ext.drew' (by assumption) | exact Ext.undrew (by assumption)) (by first | assumption | exact Own.sl (by assumption) | exact Sl.back (by first | assumption | exact Ext.drew' (by assumption) | exact Ext.undrew (by assumption)) (by first | assumption | exact Own.sl (by assumption))))))))) (by first | rw [List.length_map] | rfl) ?_; try (conv in (Act.put _ _ _) => simp only [Act.put, List.setIfInBounds_toArray, List.set_cons_succ, List.set_cons_zero])))
   rw [hvl]
   have hxx := hx.tr hx24
   have ho0 := h24.down hx.size
   clear hx hx24 h24
   go_loopw [6, 27] (fun o i wq => ∃ k : Nat, k ≤ ls.length ∧ i = .int .i64 k ∧ Own wq w.heap.size 89 o ((ls.take k).flatten.map w32) ∧ Ext w wq) (fun _ i _ => ls.length - (RowKit.intOf i).toNat)
   case atStart => exact ⟨0, Nat.zero_le _, rfl, by simpa using ho0, hxx⟩
   case round =>
    obtain ⟨k, hk, rfl, ho, hx⟩ := hrel
    by_cases hlt : k < ls.length
    ·obtain ⟨Bi, hsi⟩ := hvs.2 k hlt
     have hf := flat_takeW ls k hlt
     have hle := flat_leW ls (k + 1)
     generalize ls.getD k [] = x at *
     rw [hf, List.length_append] at hle
     have HF := Lib.hid hf
     clear hf
     generalize (ls.take k).flatten = X at *
     have hb9 : (List.map w32 X).length + (List.map w32 x).length ≤ 1000000000 := by rw [List.length_map, List.length_map]; have h1 := HS.out; have h2 := HB.out; omega
     go_wp2_with (first
      | ((with_reducible refine g_at (d := 29) ?_); refine wpl_index rfl rfl Try.underlying115 hi60 hs60 (hv.ext hx) rfl (vgetW hvl hlt) ?_; intro ad29 hb29 hc29; try (conv in (Act.put _ _ _) => simp only [Act.put, List.setIfInBounds_toArray, List.set_cons_succ, List.set_cons_zero]))
      | ((with_reducible refine g_at (d := 30) ?_); refine wpl_load1 rfl Try.underlying60 rfl hc29 ?_; try (conv in (Act.put _ _ _) => simp only [Act.put, List.setIfInBounds_toArray, List.set_cons_succ, List.set_cons_zero]))
      | ((with_reducible refine g_at (d := 33) ?_); refine wpl_append (v := u6) rfl rfl Try.underlying60 hi89 hz89 hs89 hb89 rfl ho (hsi.ext hx) (w32_one x) (by first | omega | (simp <;> omega)) (by omega) hx.size ?_; intro v33 w33 h33 hg33 ha33 hx33; try (conv in (Act.put _ _ _) => simp only [Act.put, List.setIfInBounds_toArray, List.set_cons_succ, List.set_cons_zero]))
      | ((with_reducible refine g_at (d := 10) ?_); refine wpl_len rfl Try.underlying115 (by first | assumption | exact Own.sl (by assumption) | exact Sl.back (by first | assumption | exact Ext.drew' (by assumption) | exact Ext.undrew (by assumption)) (by first | assumption | exact Own.sl (by assumption) | exact Sl.back (by first | assumption | exact Ext.drew' (by assumption) | exact Ext.undrew (by assumption)) (by first | assumption | exact Own.sl (by assumption) | exact Sl.back (by first | assumption | exact Ext.drew' (by assumption) | exact Ext.undrew (by assumption)) (by first | assumption | exact Own.sl (by assumption) | exact Sl.back (by first | assumption | exact Ext.drew' (by assumption) | exact Ext.undrew (by assumption)) (by first | assumption | exact Own.sl (by assumption) | exact Sl.back (by first | assumption | exact Ext.drew' (by assumption) | exact Ext.undrew (by assumption)) (by first | assumption | exact Own.sl (by assumption) | exact Sl.back (by first | assumption | exact Ext.drew' (by assumption) | exact Ext.undrew (by assumption)) (by first | assumption | exact Own.sl (by assumption) | exact Sl.back (by first | assumption | exact Ext.drew' (by assumption) | exact Ext.undrew (by assumption)) (by first | assumption | exact Own.sl (by assumption))))))))) (by first | rw [List.length_map] | rfl) ?_; try (conv in (Act.put _ _ _) => simp only [Act.put, List.setIfInBounds_toArray, List.set_cons_succ, List.set_cons_zero]))
      | ((with_reducible refine g_at (d := 17) ?_); refine wpl_len rfl Try.underlying60 (by first | assumption | exact Own.sl (by assumption) | exact Sl.back (by first | assumption | exact Ext.drew' (by assumption) | exact Ext.undrew (by assumption)) (by first | assumption | exact Own.sl (by assumption) | exact Sl.back (by first | assumption | exact Ext.drew' (by assumption) | exact Ext.undrew (by assumption)) (by first | assumption | exact Own.sl (by assumption) | exact Sl.back (by first | assumption | exact Ext.drew' (by assumption) | exact Ext.undrew (by assumption)) (by first | assumption | exact Own.sl (by assumption) | exact Sl.back (by first | assumption | exact Ext.drew' (by assumption) | exact Ext.undrew (by assumption)) (by first | assumption | exact Own.sl (by assumption) | exact Sl.back (by first | assumption | exact Ext.drew' (by assumption) | exact Ext.undrew (by assumption)) (by first | assumption | exact Own.sl (by assumption) | exact Sl.back (by first | assumption | exact Ext.drew' (by assumption) | exact Ext.undrew (by assumption)) (by first | assumption | exact Own.sl (by assumption) | exact Sl.back (by first | assumption | exact Ext.drew' (by assumption) | exact Ext.undrew (by assumption)) (by first | assumption | exact Own.sl (by assumption))))))))) (by first | rw [List.length_map] | rfl) ?_; try (conv in (Act.put _ _ _) => simp only [Act.put, List.setIfInBounds_toArray, List.set_cons_succ, List.set_cons_zero]))
      | ((with_reducible refine g_at (d := 26) ?_); refine wpl_len rfl Try.underlying115 (by first | assumption | exact Own.sl (by assumption) | exact Sl.back (by first | assumption | exact Ext.drew' (by assumption) | exact Ext.undrew (by assumption)) (by first | assumption | exact Own.sl (by assumption) | exact Sl.back (by first | assumption | exact Ext.drew' (by assumption) | exact Ext.undrew (by assumption)) (by first | assumption | exact Own.sl (by assumption) | exact Sl.back (by first | assumption | exact Ext.drew' (by assumption) | exact Ext.undrew (by assumption)) (by first | assumption | exact Own.sl (by assumption) | exact Sl.back (by first | assumption | exact Ext.drew' (by assumption) | exact Ext.undrew (by assumption)) (by first | assumption | exact Own.sl (by assumption) | exact Sl.back (by first | assumption | exact Ext.drew' (by assumption) | exact Ext.undrew (by assumption)) (by first | assumption | exact Own.sl (by assumption) | exact Sl.back (by first | assumption | exact Ext.drew' (by assumption) | exact Ext.undrew (by assumption)) (by first | assumption | exact Own.sl (by assumption) | exact Sl.back (by first | assumption | exact Ext.drew' (by assumption) | exact Ext.undrew (by assumption)) (by first | assumption | exact Own.sl (by assumption))))))))) (by first | rw [List.length_map] | rfl) ?_; try (conv in (Act.put _ _ _) => simp only [Act.put, List.setIfInBounds_toArray, List.set_cons_succ, List.set_cons_zero])))
     go_roundw
     case rel => exact ⟨k + 1, by omega, by go_num, by rw [HF.out, List.map_append]; exact h33, hx.trans hx33⟩
     case measure => simp [RowKit.intOf]; omega
    ·obtain rfl : k = ls.length := by omega
     rw [List.take_length] at ho
     go_wp2
     go_ret
     exact ⟨_, rfl, hx, ho⟩
end Go.Proofs.Ytliilihbnhdemaa
end
section
namespace Go.Proofs.Ytliilihbnhdemaa
open Go.RowKit Go.Ch Go.Sx
theorem slr_slW {w : World} {v : Value} {n : Nat} {vs : List Value} (h : SlR w v n 1 vs) : Sl w w.heap.size v vs := by
 obtain ⟨hl, A, c, rfl, h1, h2, h3, h4⟩ := h
 have hn : vs.length = n := by omega
 subst hn
 refine ⟨Nat.le_refl _, A, c, rfl, h1, h2, h3, fun ad had j u hu => ⟨?_, h4 ad had j u hu⟩⟩
 have := World.block_lt_of_cell? _ _ (h4 ad had j u hu)
 rwa [block_add] at this
def aLsW (H : Hp) : List Cl → Option (List (List UInt32))
 | [] => some []
 | c :: cs => (match aW H (.c c), aLsW H cs with | some l, some ls => some (l :: ls) | _, _ => none)
theorem aLs_okW {ρ : Pls} {w : World} {H : Hp} (hp : HpR ρ w H) : ∀ {cs : List Cl} {ls : List (List UInt32)} {vs : List Value}, aLsW H cs = some ls → F2 (clR ρ) cs vs → SlSW w vs ls
 | [], ls, vs, h, hv => by
  obtain rfl := F2.unnil hv
  simp only [aLsW, Option.some.injEq] at h
  subst h
  exact ⟨rfl, fun i hi => by simp at hi⟩
 | c :: cs, ls, vs, h, hv => by
  obtain ⟨v, vs', rfl, hc, hvs⟩ := F2.uncons hv
  simp only [aLsW] at h
  split at h
  ·rename_i l ls' hl hls
   injection h with h; subst h
   obtain ⟨h1, h2⟩ := aLs_okW hp hls hvs
   obtain ⟨p, hI⟩ := aW_ok hp hl hc 89
   have hs := hI.sl (fun _ _ h => csR_w.1 h) (by simp)
   refine ⟨by simp [h1], fun i hi => ?_⟩
   cases i with
   | zero => exact ⟨_, hs⟩
   | succ i => exact h2 i (by simpa using hi)
  ·cases h
def cat_ctW : Ct := fun args H => match args with
 | [.c x] => (match vcs H x with
  | some (sz, _, .c cells) => (match Nat.beq sz 1, aLsW H cells with
   | true, some ls => some ([ls.length ≤ 1000000, ls.flatten.length ≤ 1000000000], .c (.wh H.length), [⟨.row, 89, 1, ls.flatten.length, .w ls.flatten⟩])
   | _, _ => none)
  | _ => none)
 | _ => none
theorem cat_hW : FnOk Try.prog Tr 67 cat_ctW := by
 refine ⟨fun args H g av objs hF hg ρ w vals hG hp ha => ?_, _, Try.func67, by kernel_rfl, by kernel_rfl⟩
 unfold cat_ctW at hF
 split at hF
 ·rename_i x
  split at hF
  ·rename_i sz n cells hx
   split at hF
   ·rename_i ls hsz hls
    simp only [Option.some.injEq, Prod.mk.injEq] at hF
    obtain ⟨rfl, rfl, rfl⟩ := hF
    obtain ⟨v, vals, rfl, k, ha⟩ := F2.inv ha
    obtain rfl := F2.inv0 ha
    have e1 := Nat.eq_of_beq_eq_true hsz
    subst e1
    obtain ⟨vs, hc, hS⟩ := vcs_ok hp hx k
    obtain ⟨g1, g2⟩ : ls.length ≤ 1000000 ∧ ls.flatten.length ≤ 1000000000 := by simpa [allP] using hg
    exact calls_mono (concat_cW w _ v vs ls (slr_slW hS) (aLs_okW hp hls hc) g1 g2) fun v w' ⟨hx, hv⟩ => ⟨hx, left_row hv (fun _ => csR_w.2 rfl) (by rw [List.length_map])⟩
   ·cases hF
  ·cases hF
 ·cases hF
end Go.Proofs.Ytliilihbnhdemaa
end
section
namespace Go.Proofs.Ytliilihbnhdemaa
open Go.RowKit Go.Ch Go.Sx
def tabL_po : List (TypeId × Ti) := [(5, ⟨.int .u8, 1, 1, true, some [.int .u8]⟩),
 (9, ⟨.str, 1, 16, true, some [.str]⟩),
 (22, ⟨.sl 5, 1, 24, false, some [.nils]⟩),
 (28, ⟨.ifc, 1, 16, true, some [.ifc]⟩),
 (31, ⟨.int .i64, 1, 8, true, some [.int .i64]⟩),
 (60, ⟨.sl 89, 1, 24, false, some [.nils]⟩),
 (89, ⟨.int .u32, 1, 4, true, some [.int .u32]⟩),
 (102, ⟨.int .u64, 1, 8, true, some [.int .u64]⟩),
 (115, ⟨.sl 60, 1, 24, false, some [.nils]⟩)]
def tab_po : Tab := fun t => (tabL_po).lookup t
theorem tabE_po : (tabL_po.map fun p => tiOf Try.prog p.1) = tabL_po.map fun p => some p.2 := by kernel_rfl
theorem tabO_po : TabOk Try.prog tab_po := tab_of tabE_po
def pReadOid_j1 (n : Nat) (a0 : List UInt8) (i12_1 : Int) (k_l1 : (List UInt32) → UInt64 → Bool → Int → Option (List UInt32 × Option Int)) (w4_7 : List UInt32) (y5_7 : UInt64) (p6_7 : Bool) : Option (List UInt32 × Option Int) :=
 gd (okI .i64 (i12_1 + 1)) <|
 k_l1 w4_7 y5_7 p6_7 (i12_1 + 1)
def pReadOid_l1 (n : Nat) (a0 : List UInt8) : Nat → List UInt32 → UInt64 → Bool → Int → Option (List UInt32 × Option Int)
 | 0, _, _, _, _ => none
 | fu_l1 + 1, w4_5, y5_5, p6_5, i12_1 =>
  bif (decide (i12_1 < ((a0.length : Nat) : Int))) then
   gd (0 ≤ i12_1) <|
   gd (i12_1 < ((a0.length : Nat) : Int)) <|
   bif (!p6_5) then
    bif ((a0.getD i12_1.toNat 0) == 128) then
     some ([], (some 2))
    else
     bif (decide ((16 : Int) < ((w4_5.length : Nat) : Int))) then
      some ([], (some 2))
     else
      gd (0 ≤ (7 : Int)) <|
      bif (decide ((4294967296 : UInt64) ≤ ((shl64 y5_5 7) ||| (((a0.getD i12_1.toNat 0) &&& (127 : UInt8)).toUInt64)))) then
       some ([], (some 2))
      else
       bif (decide ((a0.getD i12_1.toNat 0) < (128 : UInt8))) then
        gd (rmB (w4_5.length + 1) 4) <|
        pReadOid_j1 n a0 i12_1 (pReadOid_l1 n a0 fu_l1) (w4_5 ++ [((shl64 y5_5 7) ||| (((a0.getD i12_1.toNat 0) &&& (127 : UInt8)).toUInt64)).toUInt32]) 0 false
       else
        pReadOid_j1 n a0 i12_1 (pReadOid_l1 n a0 fu_l1) w4_5 ((shl64 y5_5 7) ||| (((a0.getD i12_1.toNat 0) &&& (127 : UInt8)).toUInt64)) true
   else
    bif (decide ((16 : Int) < ((w4_5.length : Nat) : Int))) then
     some ([], (some 2))
    else
     gd (0 ≤ (7 : Int)) <|
     bif (decide ((4294967296 : UInt64) ≤ ((shl64 y5_5 7) ||| (((a0.getD i12_1.toNat 0) &&& (127 : UInt8)).toUInt64)))) then
      some ([], (some 2))
     else
      bif (decide ((a0.getD i12_1.toNat 0) < (128 : UInt8))) then
       gd (rmB (w4_5.length + 1) 4) <|
       pReadOid_j1 n a0 i12_1 (pReadOid_l1 n a0 fu_l1) (w4_5 ++ [((shl64 y5_5 7) ||| (((a0.getD i12_1.toNat 0) &&& (127 : UInt8)).toUInt64)).toUInt32]) 0 false
      else
       pReadOid_j1 n a0 i12_1 (pReadOid_l1 n a0 fu_l1) w4_5 ((shl64 y5_5 7) ||| (((a0.getD i12_1.toNat 0) &&& (127 : UInt8)).toUInt64)) true
  else
   bif p6_5 then
    some ([], (some 2))
   else
    bif (((w4_5.length : Nat) : Int) == 0) then
     some ([], (some 2))
    else
     gd (0 ≤ (0 : Int)) <|
     gd ((0 : Int) < ((w4_5.length : Nat) : Int)) <|
     gd ((40 : UInt32) ≠ 0) <|
     gd (0 ≤ (0 : Int)) <|
     gd ((0 : Int) < ((w4_5.length : Nat) : Int)) <|
     gd (0 ≤ (1 : Int)) <|
     gd ((1 : Int) ≤ ((w4_5.length : Nat) : Int)) <|
     gd ((([[(if (2 : UInt32) < ((w4_5.getD 0 0) / (40 : UInt32)) then (2 : UInt32) else ((w4_5.getD 0 0) / (40 : UInt32))), ((w4_5.getD 0 0) - ((40 : UInt32) * (if (2 : UInt32) < ((w4_5.getD 0 0) / (40 : UInt32)) then (2 : UInt32) else ((w4_5.getD 0 0) / (40 : UInt32)))))], ((w4_5.drop 1).take (w4_5.length - 1))] : List (List UInt32))).length ≤ 1000000) <|
     gd ((([[(if (2 : UInt32) < ((w4_5.getD 0 0) / (40 : UInt32)) then (2 : UInt32) else ((w4_5.getD 0 0) / (40 : UInt32))), ((w4_5.getD 0 0) - ((40 : UInt32) * (if (2 : UInt32) < ((w4_5.getD 0 0) / (40 : UInt32)) then (2 : UInt32) else ((w4_5.getD 0 0) / (40 : UInt32)))))], ((w4_5.drop 1).take (w4_5.length - 1))] : List (List UInt32))).flatten.length ≤ 1000000000) <|
     (pident n ((([[(if (2 : UInt32) < ((w4_5.getD 0 0) / (40 : UInt32)) then (2 : UInt32) else ((w4_5.getD 0 0) / (40 : UInt32))), ((w4_5.getD 0 0) - ((40 : UInt32) * (if (2 : UInt32) < ((w4_5.getD 0 0) / (40 : UInt32)) then (2 : UInt32) else ((w4_5.getD 0 0) / (40 : UInt32)))))], ((w4_5.drop 1).take (w4_5.length - 1))] : List (List UInt32))).flatten)).bind fun r70_1 =>
     bif (!r70_1) then
      some ([], (some 2))
     else
      some (((([[(if (2 : UInt32) < ((w4_5.getD 0 0) / (40 : UInt32)) then (2 : UInt32) else ((w4_5.getD 0 0) / (40 : UInt32))), ((w4_5.getD 0 0) - ((40 : UInt32) * (if (2 : UInt32) < ((w4_5.getD 0 0) / (40 : UInt32)) then (2 : UInt32) else ((w4_5.getD 0 0) / (40 : UInt32)))))], ((w4_5.drop 1).take (w4_5.length - 1))] : List (List UInt32))).flatten), none)
def pReadOid (n : Nat) (a0 : List UInt8) : Option (List UInt32 × Option Int) :=
 pReadOid_l1 n a0 n [] 0 false 0
def lsame_l1 (n : Nat) (a0 : List UInt32) (a1 : List UInt32) : Nat → Int → Option (Bool)
 | 0, _ => none
 | fu_l1 + 1, i5_2 =>
 bif (decide (i5_2 < ((a0.length : Nat) : Int))) then
 gd (0 ≤ i5_2) <|
 gd (i5_2 < ((a0.length : Nat) : Int)) <|
 gd (0 ≤ i5_2) <|
 gd (i5_2 < ((a1.length : Nat) : Int)) <|
 bif ((a0.getD i5_2.toNat 0) != (a1.getD i5_2.toNat 0)) then
 some false
 else
 gd (okI .i64 (i5_2 + 1)) <|
 (lsame_l1 n a0 a1 fu_l1) (i5_2 + 1)
 else
 some true
def lsame (n : Nat) (a0 : List UInt32) (a1 : List UInt32) : Option (Bool) :=
 bif (((a0.length : Nat) : Int) != ((a1.length : Nat) : Int)) then
 some false
 else
 lsame_l1 n a0 a1 n 0
def pReadOid_j1_E (a0 : List UInt8) (i12_1 : Int) (w4_7 : List UInt32) (y5_7 : UInt64) (p6_7 : Bool) : S := ⟨[(4, kH 0), (5, kY y5_7), (6, kB p6_7), (10, kH 1), (11, kI ((a0.length : Nat) : Int)), (12, kI i12_1)], [], [nw 89 w4_7, ob 5 a0]⟩
abbrev pReadOid_j1_P (n : Nat) (a0 : List UInt8) (i12_1 : Int) (k_l1 : (List UInt32) → UInt64 → Bool → Int → Option (List UInt32 × Option Int)) (r : List UInt32 × Option Int) : S → Prop := fun s => ∃ (w4_7 : List UInt32), ∃ (y5_7 : UInt64), ∃ (p6_7 : Bool), s = pReadOid_j1_E a0 i12_1 w4_7 y5_7 p6_7 ∧ pReadOid_j1 n a0 i12_1 k_l1 w4_7 y5_7 p6_7 = some r
def pReadOid_l1_E (a0 : List UInt8) (w4_5 : List UInt32) (y5_5 : UInt64) (p6_5 : Bool) (i12_1 : Int) : S := ⟨[(4, kH 0), (5, kY y5_5), (6, kB p6_5), (10, kH 1), (11, kI ((a0.length : Nat) : Int)), (12, kI i12_1)], [], [nw 89 w4_5, ob 5 a0]⟩
abbrev pReadOid_l1_P (n : Nat) (a0 : List UInt8) (r : List UInt32 × Option Int) (fu : Nat) : S → Prop := fun s => ∃ (w4_5 : List UInt32), ∃ (y5_5 : UInt64), ∃ (p6_5 : Bool), ∃ (i12_1 : Int), s = pReadOid_l1_E a0 w4_5 y5_5 p6_5 i12_1 ∧ pReadOid_l1 n a0 fu w4_5 y5_5 p6_5 i12_1 = some r
def pReadOid_R (r : List UInt32 × Option Int) : S := ⟨[(2, kH 0), (3, kE 31 r.2)], [], [nw 89 r.1]⟩
def pReadOid_ct (n : Nat) (r : List UInt32 × Option Int) : Ct := ctc (rB 5).rd fun _ l0 => ct0 fun H => ([pReadOid n l0 = some r], shA H.length (.t [.c (.wh 0), .c (.s (.er 31 .i64 r.2))]), shH H.length [nw 89 r.1])
theorem pReadOid_ok (n : Nat) (r : List UInt32 × Option Int) : FnOk Try.prog Tr 35 (pReadOid_ct n r) := by
 refine fnok Try.func35 ?_
 refine HO_c (rB 5) fun l0 _ => HO_0 tabO_po (pReadOid_R r) [.tmp 2, .tmp 3] [0] 74 Try.func35 fun w hG h => ?_
 unfold pReadOid at h
 have hT := tabO_po
 refine Vrs hT [0] ⟨[(0, kH 0)], [], [ob 5 l0]⟩ ?_
 refine Vrs hT [0] ⟨[(0, kH 0), (4, .c (.nils))], [], [ob 5 l0]⟩ ?_
 refine Vrs hT [0] ⟨[(0, kH 0), (4, .c (.nils)), (5, kY 0), (6, kB false)], [], [ob 5 l0]⟩ ?_
 refine W_seq ?_
 refine Vrs hT [0] ⟨[(4, .c (.nils)), (5, kY 0), (6, kB false), (10, kH 0), (11, kI ((l0.length : Nat) : Int)), (12, kI 0)], [], [ob 5 l0]⟩ ?_
 refine W_block ?_
 refine Vc [.nil 4 89 1 (.w [])] [1, 0] (pReadOid_l1_E l0 [] 0 false 0) (W_lp ((pReadOid_l1_P n l0 r)) n ⟨_, _, _, _, rfl, h⟩ ?_)
 rintro fu_l1 _ ⟨w4_5, y5_5, p6_5, i12_1, rfl, h⟩
 cases fu_l1 with
 | zero => cases h
 | succ fu_l1 =>
  refine ⟨fu_l1, rfl, ?_⟩
  rw [pReadOid_l1] at h
  refine Vrs hT [0, 1] ⟨[(4, kH 0), (5, kY y5_5), (6, kB p6_5), (10, kH 1), (11, kI ((l0.length : Nat) : Int)), (12, kI i12_1), (13, kB (decide (i12_1 < ((l0.length : Nat) : Int))))], [], [nw 89 w4_5, ob 5 l0]⟩ ?_
  refine W_seq ?_
  refine Vi ((decide (i12_1 < ((l0.length : Nat) : Int)))) (fun g29 => ?_) (fun g29 => ?_)
  ·replace h := bif_t h g29
   refine Vc [] [0, 1] ⟨[(4, kH 0), (5, kY y5_5), (6, kB p6_5), (10, kH 1), (11, kI ((l0.length : Nat) : Int)), (12, kI i12_1)], [], [nw 89 w4_5, ob 5 l0]⟩ (W_skip ?_)
   refine W_join (pReadOid_j1_P n l0 i12_1 (pReadOid_l1 n l0 fu_l1) r) ?_ ?_
   ·rintro _ ⟨w4_7, y5_7, p6_7, rfl, h⟩
    unfold pReadOid_j1 at h
    obtain ⟨g1, h⟩ := gd_some h
    refine Vg hT fN [] [] [0, 1] (pReadOid_l1_E l0 w4_7 y5_7 p6_7 (i12_1 + 1)) (aP g1 aN) ?_
    exact ⟨_, _, _, _, rfl, h⟩
   ·refine W_block ?_
    obtain ⟨g2, g3, h⟩ := gd2 h
    refine Vgs hT fN [] [] [0, 1] ⟨[(4, kH 0), (5, kY y5_5), (6, kB p6_5), (8, kU (l0.getD i12_1.toNat 0)), (10, kH 1), (11, kI ((l0.length : Nat) : Int)), (12, kI i12_1)], [], [nw 89 w4_5, ob 5 l0]⟩ (aP g2 (aP g3 aN)) ?_
    refine W_seq ?_
    refine W_seq ?_
    rcases Bool.eq_false_or_eq_true (!p6_5) with g4 | g4
    ·replace h := bif_t h g4
     rcases Bool.eq_false_or_eq_true ((l0.getD i12_1.toNat 0) == 128) with g5 | g5
     ·replace h := bif_t h g5
      refine Vg hT fN [(2, true), (6, true)] [] [0, 1] ⟨[(4, kH 0), (5, kY y5_5), (8, kU (l0.getD i12_1.toNat 0)), (10, kH 1), (11, kI ((l0.length : Nat) : Int)), (12, kI i12_1), (26, kB true)], [], [nw 89 w4_5, ob 5 l0]⟩ (aP g4 (aP g5 aN)) ?_
      refine Vi (true) (fun _ => ?_) (fun hb => by cases hb)
      refine Vrs hT [] ⟨[(2, .c (.nils)), (3, kE 31 (some 2))], [], []⟩ ?_
      refine Vc [.nil 2 89 1 (.w [])] [0] (pReadOid_R ([], (some 2))) (W_ret ?_)
      exact ⟨.inl rfl, by cases h; rfl⟩
     ·replace h := bif_f h g5
      refine Vg hT fN [(2, true), (6, false)] [] [0, 1] ⟨[(4, kH 0), (5, kY y5_5), (8, kU (l0.getD i12_1.toNat 0)), (10, kH 1), (11, kI ((l0.length : Nat) : Int)), (12, kI i12_1), (26, kB (decide ((16 : Int) < ((w4_5.length : Nat) : Int))))], [], [nw 89 w4_5, ob 5 l0]⟩ (aP g4 (aP g5 aN)) ?_
      refine Vi ((decide ((16 : Int) < ((w4_5.length : Nat) : Int)))) (fun g10 => ?_) (fun g10 => ?_)
      ·replace h := bif_t h g10
       refine Vrs hT [] ⟨[(2, .c (.nils)), (3, kE 31 (some 2))], [], []⟩ ?_
       refine Vc [.nil 2 89 1 (.w [])] [0] (pReadOid_R ([], (some 2))) (W_ret ?_)
       exact ⟨.inl rfl, by cases h; rfl⟩
      ·replace h := bif_f h g10
       refine W_skip ?_
       obtain ⟨g6, h⟩ := gd_some h
       refine Vgs hT fN [] [] [0, 1] ⟨[(4, kH 0), (5, kY ((shl64 y5_5 7) ||| (((l0.getD i12_1.toNat 0) &&& (127 : UInt8)).toUInt64))), (6, kB true), (8, kU (l0.getD i12_1.toNat 0)), (10, kH 1), (11, kI ((l0.length : Nat) : Int)), (12, kI i12_1)], [], [nw 89 w4_5, ob 5 l0]⟩ (aP g6 aN) ?_
       refine W_seq ?_
       refine Vrs hT [0, 1] ⟨[(4, kH 0), (5, kY ((shl64 y5_5 7) ||| (((l0.getD i12_1.toNat 0) &&& (127 : UInt8)).toUInt64))), (6, kB true), (8, kU (l0.getD i12_1.toNat 0)), (10, kH 1), (11, kI ((l0.length : Nat) : Int)), (12, kI i12_1), (35, kB (decide ((4294967296 : UInt64) ≤ ((shl64 y5_5 7) ||| (((l0.getD i12_1.toNat 0) &&& (127 : UInt8)).toUInt64)))))], [], [nw 89 w4_5, ob 5 l0]⟩ ?_
       refine Vi ((decide ((4294967296 : UInt64) ≤ ((shl64 y5_5 7) ||| (((l0.getD i12_1.toNat 0) &&& (127 : UInt8)).toUInt64))))) (fun g9 => ?_) (fun g9 => ?_)
       ·replace h := bif_t h g9
        refine Vrs hT [] ⟨[(2, .c (.nils)), (3, kE 31 (some 2))], [], []⟩ ?_
        refine Vc [.nil 2 89 1 (.w [])] [0] (pReadOid_R ([], (some 2))) (W_ret ?_)
        exact ⟨.inl rfl, by cases h; rfl⟩
       ·replace h := bif_f h g9
        refine W_skip ?_
        refine Vrs hT [0, 1] ⟨[(4, kH 0), (5, kY ((shl64 y5_5 7) ||| (((l0.getD i12_1.toNat 0) &&& (127 : UInt8)).toUInt64))), (6, kB true), (10, kH 1), (11, kI ((l0.length : Nat) : Int)), (12, kI i12_1), (38, kB (decide ((l0.getD i12_1.toNat 0) < (128 : UInt8))))], [], [nw 89 w4_5, ob 5 l0]⟩ ?_
        refine Vi ((decide ((l0.getD i12_1.toNat 0) < (128 : UInt8)))) (fun g8 => ?_) (fun g8 => ?_)
        ·replace h := bif_t h g8
         obtain ⟨g7, h⟩ := gd_some h
         refine Vg hT fN [] [] [3, 1] (pReadOid_j1_E l0 i12_1 (w4_5 ++ [((shl64 y5_5 7) ||| (((l0.getD i12_1.toNat 0) &&& (127 : UInt8)).toUInt64)).toUInt32]) 0 false) (aP g7 aN) ?_
         exact ⟨_, _, _, rfl, h⟩
        ·replace h := bif_f h g8
         refine Vc [] [0, 1] (pReadOid_j1_E l0 i12_1 w4_5 ((shl64 y5_5 7) ||| (((l0.getD i12_1.toNat 0) &&& (127 : UInt8)).toUInt64)) true) (W_skip ?_)
         exact ⟨_, _, _, rfl, h⟩
    ·replace h := bif_f h g4
     refine Vg hT fN [(2, false)] [] [0, 1] ⟨[(4, kH 0), (5, kY y5_5), (8, kU (l0.getD i12_1.toNat 0)), (10, kH 1), (11, kI ((l0.length : Nat) : Int)), (12, kI i12_1), (26, kB (decide ((16 : Int) < ((w4_5.length : Nat) : Int))))], [], [nw 89 w4_5, ob 5 l0]⟩ (aP g4 aN) ?_
     refine Vi ((decide ((16 : Int) < ((w4_5.length : Nat) : Int)))) (fun g15 => ?_) (fun g15 => ?_)
     ·replace h := bif_t h g15
      refine Vrs hT [] ⟨[(2, .c (.nils)), (3, kE 31 (some 2))], [], []⟩ ?_
      refine Vc [.nil 2 89 1 (.w [])] [0] (pReadOid_R ([], (some 2))) (W_ret ?_)
      exact ⟨.inl rfl, by cases h; rfl⟩
     ·replace h := bif_f h g15
      refine W_skip ?_
      obtain ⟨g11, h⟩ := gd_some h
      refine Vgs hT fN [] [] [0, 1] ⟨[(4, kH 0), (5, kY ((shl64 y5_5 7) ||| (((l0.getD i12_1.toNat 0) &&& (127 : UInt8)).toUInt64))), (6, kB true), (8, kU (l0.getD i12_1.toNat 0)), (10, kH 1), (11, kI ((l0.length : Nat) : Int)), (12, kI i12_1)], [], [nw 89 w4_5, ob 5 l0]⟩ (aP g11 aN) ?_
      refine W_seq ?_
      refine Vrs hT [0, 1] ⟨[(4, kH 0), (5, kY ((shl64 y5_5 7) ||| (((l0.getD i12_1.toNat 0) &&& (127 : UInt8)).toUInt64))), (6, kB true), (8, kU (l0.getD i12_1.toNat 0)), (10, kH 1), (11, kI ((l0.length : Nat) : Int)), (12, kI i12_1), (35, kB (decide ((4294967296 : UInt64) ≤ ((shl64 y5_5 7) ||| (((l0.getD i12_1.toNat 0) &&& (127 : UInt8)).toUInt64)))))], [], [nw 89 w4_5, ob 5 l0]⟩ ?_
      refine Vi ((decide ((4294967296 : UInt64) ≤ ((shl64 y5_5 7) ||| (((l0.getD i12_1.toNat 0) &&& (127 : UInt8)).toUInt64))))) (fun g14 => ?_) (fun g14 => ?_)
      ·replace h := bif_t h g14
       refine Vrs hT [] ⟨[(2, .c (.nils)), (3, kE 31 (some 2))], [], []⟩ ?_
       refine Vc [.nil 2 89 1 (.w [])] [0] (pReadOid_R ([], (some 2))) (W_ret ?_)
       exact ⟨.inl rfl, by cases h; rfl⟩
      ·replace h := bif_f h g14
       refine W_skip ?_
       refine Vrs hT [0, 1] ⟨[(4, kH 0), (5, kY ((shl64 y5_5 7) ||| (((l0.getD i12_1.toNat 0) &&& (127 : UInt8)).toUInt64))), (6, kB true), (10, kH 1), (11, kI ((l0.length : Nat) : Int)), (12, kI i12_1), (38, kB (decide ((l0.getD i12_1.toNat 0) < (128 : UInt8))))], [], [nw 89 w4_5, ob 5 l0]⟩ ?_
       refine Vi ((decide ((l0.getD i12_1.toNat 0) < (128 : UInt8)))) (fun g13 => ?_) (fun g13 => ?_)
       ·replace h := bif_t h g13
        obtain ⟨g12, h⟩ := gd_some h
        refine Vg hT fN [] [] [3, 1] (pReadOid_j1_E l0 i12_1 (w4_5 ++ [((shl64 y5_5 7) ||| (((l0.getD i12_1.toNat 0) &&& (127 : UInt8)).toUInt64)).toUInt32]) 0 false) (aP g12 aN) ?_
        exact ⟨_, _, _, rfl, h⟩
       ·replace h := bif_f h g13
        refine Vc [] [0, 1] (pReadOid_j1_E l0 i12_1 w4_5 ((shl64 y5_5 7) ||| (((l0.getD i12_1.toNat 0) &&& (127 : UInt8)).toUInt64)) true) (W_skip ?_)
        exact ⟨_, _, _, rfl, h⟩
  ·replace h := bif_f h g29
   refine Vc [] [0] ⟨[(4, kH 0), (6, kB p6_5)], [], [nw 89 w4_5]⟩ (W_exit ?_)
   refine W_seq ?_
   refine W_seq ?_
   rcases Bool.eq_false_or_eq_true p6_5 with g16 | g16
   ·replace h := bif_t h g16
    refine Vg hT fN [(1, true)] [] [0] ⟨[(4, kH 0), (50, kB true)], [], [nw 89 w4_5]⟩ (aP g16 aN) ?_
    refine Vi (true) (fun _ => ?_) (fun hb => by cases hb)
    refine Vrs hT [] ⟨[(2, .c (.nils)), (3, kE 31 (some 2))], [], []⟩ ?_
    refine Vc [.nil 2 89 1 (.w [])] [0] (pReadOid_R ([], (some 2))) (W_ret ?_)
    exact ⟨.inl rfl, by cases h; rfl⟩
   ·replace h := bif_f h g16
    refine Vg hT fN [(1, false)] [] [0] ⟨[(4, kH 0), (50, kB (((w4_5.length : Nat) : Int) == 0))], [], [nw 89 w4_5]⟩ (aP g16 aN) ?_
    refine Vi ((((w4_5.length : Nat) : Int) == 0)) (fun g28 => ?_) (fun g28 => ?_)
    ·replace h := bif_t h g28
     refine Vrs hT [] ⟨[(2, .c (.nils)), (3, kE 31 (some 2))], [], []⟩ ?_
     refine Vc [.nil 2 89 1 (.w [])] [0] (pReadOid_R ([], (some 2))) (W_ret ?_)
     exact ⟨.inl rfl, by cases h; rfl⟩
    ·replace h := bif_f h g28
     refine W_skip ?_
     obtain ⟨g17, g18, g19, h⟩ := gd3 h
     refine Vgs hT fN [] [] [0] ⟨[(4, kH 0), (9, kX (if (2 : UInt32) < ((w4_5.getD 0 0) / (40 : UInt32)) then (2 : UInt32) else ((w4_5.getD 0 0) / (40 : UInt32))))], [], [nw 89 w4_5]⟩ (aP g17 (aP g18 (aP g19 aN))) ?_
     obtain ⟨g20, g21, g22, g23, g24, h⟩ := gd5 h
     obtain ⟨g25, h⟩ := gd_some h
     refine Vds hT (fT 11 cat_hW fN) 10 [] [(4, false), (64, false), (66, false)] [] [3] ⟨[(4, kH 0)], [], [nw 89 ((([[(if (2 : UInt32) < ((w4_5.getD 0 0) / (40 : UInt32)) then (2 : UInt32) else ((w4_5.getD 0 0) / (40 : UInt32))), ((w4_5.getD 0 0) - ((40 : UInt32) * (if (2 : UInt32) < ((w4_5.getD 0 0) / (40 : UInt32)) then (2 : UInt32) else ((w4_5.getD 0 0) / (40 : UInt32)))))], ((w4_5.drop 1).take (w4_5.length - 1))] : List (List UInt32))).flatten)]⟩ (aP g20 (aP g21 (aP g22 (aP g23 (aP g24 (aP g25 aN)))))) ?_
     refine W_seq ?_
     obtain ⟨r70_1, g26, h⟩ := bind_some' h
     refine Vgs hT (fT 1 (pident_ok n r70_1) fN) [] [] [0] ⟨[(4, kH 0), (71, kB (!r70_1))], [], [nw 89 ((([[(if (2 : UInt32) < ((w4_5.getD 0 0) / (40 : UInt32)) then (2 : UInt32) else ((w4_5.getD 0 0) / (40 : UInt32))), ((w4_5.getD 0 0) - ((40 : UInt32) * (if (2 : UInt32) < ((w4_5.getD 0 0) / (40 : UInt32)) then (2 : UInt32) else ((w4_5.getD 0 0) / (40 : UInt32)))))], ((w4_5.drop 1).take (w4_5.length - 1))] : List (List UInt32))).flatten)]⟩ (aP g26 aN) ?_
     refine Vi ((!r70_1)) (fun g27 => ?_) (fun g27 => ?_)
     ·replace h := bif_t h g27
      refine Vrs hT [] ⟨[(2, .c (.nils)), (3, kE 31 (some 2))], [], []⟩ ?_
      refine Vc [.nil 2 89 1 (.w [])] [0] (pReadOid_R ([], (some 2))) (W_ret ?_)
      exact ⟨.inl rfl, by cases h; rfl⟩
     ·replace h := bif_f h g27
      refine W_skip ?_
      refine Vrs hT [0] ⟨[(2, kH 0), (3, .c (.s (.v .nilIface)))], [], [nw 89 ((([[(if (2 : UInt32) < ((w4_5.getD 0 0) / (40 : UInt32)) then (2 : UInt32) else ((w4_5.getD 0 0) / (40 : UInt32))), ((w4_5.getD 0 0) - ((40 : UInt32) * (if (2 : UInt32) < ((w4_5.getD 0 0) / (40 : UInt32)) then (2 : UInt32) else ((w4_5.getD 0 0) / (40 : UInt32)))))], ((w4_5.drop 1).take (w4_5.length - 1))] : List (List UInt32))).flatten)]⟩ ?_
      refine Vc [.er 3 31 .i64] [0] (pReadOid_R (((([[(if (2 : UInt32) < ((w4_5.getD 0 0) / (40 : UInt32)) then (2 : UInt32) else ((w4_5.getD 0 0) / (40 : UInt32))), ((w4_5.getD 0 0) - ((40 : UInt32) * (if (2 : UInt32) < ((w4_5.getD 0 0) / (40 : UInt32)) then (2 : UInt32) else ((w4_5.getD 0 0) / (40 : UInt32)))))], ((w4_5.drop 1).take (w4_5.length - 1))] : List (List UInt32))).flatten), none)) (W_ret ?_)
      exact ⟨.inl rfl, by cases h; rfl⟩
def lsame_l1_E (a0 : List UInt32) (a1 : List UInt32) (i5_2 : Int) : S := ⟨[(0, kH 0), (1, kH 1), (5, kI i5_2)], [], [ow 89 a0, ow 89 a1]⟩
abbrev lsame_l1_P (n : Nat) (a0 : List UInt32) (a1 : List UInt32) (r : Bool) (fu : Nat) : S → Prop := fun s => ∃ (i5_2 : Int), s = lsame_l1_E a0 a1 i5_2 ∧ lsame_l1 n a0 a1 fu i5_2 = some r
def lsame_R (r : Bool) : S := ⟨[(4, kB r)], [], []⟩
def lsame_ct (n : Nat) (r : Bool) : Ct := ctc (rW 89).rd fun _ l0 => ctc (rW 89).rd fun _ l1 => ct0 fun H => ([lsame n l0 l1 = some r], shA H.length (kB r), shH H.length [])
theorem lsame_ok (n : Nat) (r : Bool) : FnOk Try.prog Tr 37 (lsame_ct n r) := by
 refine fnok Try.func37 ?_
 refine HO_c (rW 89) fun l0 _ => HO_c (rW 89) fun l1 _ => HO_0 tabO_po (lsame_R r) [.tmp 4] [] 26 Try.func37 fun w hG h => ?_
 unfold lsame at h
 have hT := tabO_po
 refine Vrs hT [0, 1] ⟨[(0, kH 0), (1, kH 1)], [], [ow 89 l0, ow 89 l1]⟩ ?_
 refine W_seq ?_
 refine Vrs hT [0, 1] ⟨[(0, kH 0), (1, kH 1), (10, kB (((l0.length : Nat) : Int) != ((l1.length : Nat) : Int)))], [], [ow 89 l0, ow 89 l1]⟩ ?_
 refine Vi ((((l0.length : Nat) : Int) != ((l1.length : Nat) : Int))) (fun g8 => ?_) (fun g8 => ?_)
 ·replace h := bif_t h g8
  refine Vrs hT [] ⟨[(4, kB false)], [], []⟩ ?_
  refine Vc [] [] (lsame_R false) (W_ret ?_)
  exact ⟨.inl rfl, by cases h; rfl⟩
 ·replace h := bif_f h g8
  refine W_skip ?_
  refine W_seq ?_
  refine Vrs hT [0, 1] ⟨[(0, kH 0), (1, kH 1), (5, kI 0)], [], [ow 89 l0, ow 89 l1]⟩ ?_
  refine W_block ?_
  refine Vc [] [0, 1] (lsame_l1_E l0 l1 0) (W_lp ((lsame_l1_P n l0 l1 r)) n ⟨_, rfl, h⟩ ?_)
  rintro fu_l1 _ ⟨i5_2, rfl, h⟩
  cases fu_l1 with
  | zero => cases h
  | succ fu_l1 =>
   refine ⟨fu_l1, rfl, ?_⟩
   rw [lsame_l1] at h
   refine W_seq ?_
   refine Vrs hT [0, 1] ⟨[(0, kH 0), (1, kH 1), (5, kI i5_2), (14, kB (decide (i5_2 < ((l0.length : Nat) : Int))))], [], [ow 89 l0, ow 89 l1]⟩ ?_
   refine Vi ((decide (i5_2 < ((l0.length : Nat) : Int)))) (fun g7 => ?_) (fun g7 => ?_)
   ·replace h := bif_t h g7
    refine W_skip ?_
    refine W_seq ?_
    refine W_block ?_
    obtain ⟨g1, g2, g3, g4, h⟩ := gd4 h
    refine Vds hT fN 8 [] [(0, false), (1, false), (5, false), (20, false), (24, false)] [] [0, 1] ⟨[(0, kH 0), (1, kH 1), (5, kI i5_2), (25, kB ((l0.getD i5_2.toNat 0) != (l1.getD i5_2.toNat 0)))], [], [ow 89 l0, ow 89 l1]⟩ (aP g1 (aP g2 (aP g3 (aP g4 aN)))) ?_
    refine Vi (((l0.getD i5_2.toNat 0) != (l1.getD i5_2.toNat 0))) (fun g6 => ?_) (fun g6 => ?_)
    ·replace h := bif_t h g6
     refine Vrs hT [] ⟨[(4, kB false)], [], []⟩ ?_
     refine Vc [] [] (lsame_R false) (W_ret ?_)
     exact ⟨.inl rfl, by cases h; rfl⟩
    ·replace h := bif_f h g6
     refine W_skip ?_
     obtain ⟨g5, h⟩ := gd_some h
     refine Vg hT fN [] [] [0, 1] (lsame_l1_E l0 l1 (i5_2 + 1)) (aP g5 aN) ?_
     exact ⟨_, rfl, h⟩
   ·replace h := bif_f h g7
    refine Vc [] [] ⟨[], [], []⟩ (W_exit ?_)
    refine Vrs hT [] ⟨[(4, kB true)], [], []⟩ ?_
    refine Vc [] [] (lsame_R true) (W_ret ?_)
    exact ⟨.inl rfl, by cases h; rfl⟩
end Go.Proofs.Ytliilihbnhdemaa
end
section
namespace Go.Proofs.Ytliilihbnhdemaa
open Go.RowKit Go.Ch Go.Sx
def tabL_pn : List (TypeId × Ti) := [(2, ⟨.int .i64, 1, 8, true, some [.int .i64]⟩),
 (3, ⟨.int .i64, 1, 8, true, some [.int .i64]⟩),
 (5, ⟨.int .u8, 1, 1, true, some [.int .u8]⟩),
 (9, ⟨.str, 1, 16, true, some [.str]⟩),
 (22, ⟨.sl 5, 1, 24, false, some [.nils]⟩),
 (28, ⟨.ifc, 1, 16, true, some [.ifc]⟩),
 (34, ⟨.st [(3, 0), (3, 1), (3, 2), (3, 3), (3, 4), (3, 5)], 6, 48, true, some [.int .i64, .int .i64, .int .i64, .int .i64, .int .i64, .int .i64]⟩),
 (45, ⟨.st [(22, 0), (3, 1)], 2, 32, false, some [.nils, .int .i64]⟩),
 (60, ⟨.sl 89, 1, 24, false, some [.nils]⟩),
 (70, ⟨.sl 89, 1, 24, false, some [.nils]⟩),
 (77, ⟨.sl 3, 1, 24, false, some [.nils]⟩),
 (89, ⟨.int .u32, 1, 4, true, some [.int .u32]⟩)]
def tab_pn : Tab := fun t => (tabL_pn).lookup t
theorem tabE_pn : (tabL_pn.map fun p => tiOf Try.prog p.1) = tabL_pn.map fun p => some p.2 := by kernel_rfl
theorem tabO_pn : TabOk Try.prog tab_pn := tab_of tabE_pn
def rCmp_l1 (n : Nat) (a0 : List Int) (a1 : List Int) : Nat → Int → Option (Int)
 | 0, _ => none
 | fu_l1 + 1, i5_2 =>
 bif (decide ((0 : Int) ≤ i5_2)) then
 gd (0 ≤ i5_2) <|
 gd (i5_2 < ((a0.length : Nat) : Int)) <|
 gd (0 ≤ i5_2) <|
 gd (i5_2 < ((a1.length : Nat) : Int)) <|
 bif ((a0.getD i5_2.toNat 0) != (a1.getD i5_2.toNat 0)) then
 gd (0 ≤ i5_2) <|
 gd (i5_2 < ((a0.length : Nat) : Int)) <|
 gd (0 ≤ i5_2) <|
 gd (i5_2 < ((a1.length : Nat) : Int)) <|
 bif (decide ((a0.getD i5_2.toNat 0) < (a1.getD i5_2.toNat 0))) then
 some (-1)
 else
 some 1
 else
 gd (okI .i64 (i5_2 - 1)) <|
 (rCmp_l1 n a0 a1 fu_l1) (i5_2 - 1)
 else
 some 0
def rCmp (n : Nat) (a0 : List Int) (a1 : List Int) : Option (Int) :=
 bif (((a0.length : Nat) : Int) != ((a1.length : Nat) : Int)) then
 bif (decide (((a0.length : Nat) : Int) < ((a1.length : Nat) : Int))) then
 some (-1)
 else
 some 1
 else
 gd (okI .i64 (((a0.length : Nat) : Int) - 1)) <|
 rCmp_l1 n a0 a1 n (((a0.length : Nat) : Int) - 1)
def lBack_j4 (n : Nat) (r41 : Bool) : Option (Bool) :=
 some r41
def lBack_j3 (n : Nat) (a4 : List UInt8) (r41 : Bool) (r169 : List UInt8 × Int × Option Int) : Option (Bool) :=
 bif ((r169.2.2).isNone) then
  (pBits n r169.1 r169.2.1).bind fun r202 =>
  bif (!((r202.2).isNone)) then
   some false
  else
   bif (r202.1 != a4) then
    some false
   else
    lBack_j4 n r41
 else
  lBack_j4 n r41
def lBack_j6 (n : Nat) (r41 : Bool) : Option (Bool) :=
 some r41
def lBack_j5 (n : Nat) (a4 : List UInt8) (r41 : Bool) (r169 : List UInt8 × Int × Option Int) : Option (Bool) :=
 bif ((r169.2.2).isNone) then
  (pBits n r169.1 r169.2.1).bind fun r202 =>
  bif (!((r202.2).isNone)) then
   some false
  else
   bif (r202.1 != a4) then
    some false
   else
    lBack_j6 n r41
 else
  lBack_j6 n r41
def lBack_j2 (n : Nat) (a4 : List UInt8) (r41 : Bool) : Option (Bool) :=
 (pReadInt n a4).bind fun r159 =>
 (pReadOid n a4).bind fun r164 =>
 (pReadBits n a4).bind fun r169 =>
 bif ((r159.2).isNone) then
  (pInt n r159.1).bind fun r176 =>
  bif (r176 != a4) then
   some false
  else
   bif ((r164.2).isNone) then
    (pOid n r164.1).bind fun r186 =>
    bif (!((r186.2).isNone)) then
     some false
    else
     bif (r186.1 != a4) then
      some false
     else
      lBack_j3 n a4 r41 r169
   else
    lBack_j3 n a4 r41 r169
 else
  bif ((r164.2).isNone) then
   (pOid n r164.1).bind fun r186 =>
   bif (!((r186.2).isNone)) then
    some false
   else
    bif (r186.1 != a4) then
     some false
    else
     lBack_j5 n a4 r41 r169
  else
   lBack_j5 n a4 r41 r169
def lBack_j1 (n : Nat) (a3_0 : Int) (a3_1 : Int) (a3_2 : Int) (a3_3 : Int) (a3_4 : Int) (a3_5 : Int) (a4 : List UInt8) (r41 : Bool) : Option (Bool) :=
 (pTime n a3_0 a3_1 a3_2 a3_3 a3_4 a3_5).bind fun r115 =>
 bif ((r115.2.2).isNone) then
  (pReadTime n r115.1 r115.2.1).bind fun r124 =>
  (pCount n a3_0 a3_1 a3_2 a3_3 a3_4 a3_5).bind fun r129 =>
  (pAt n r129.1).bind fun r134 =>
  bif (!((r124.2.2.2.2.2.2).isNone)) then
   some false
  else
   bif (!((r124.1 == a3_0) && ((r124.2.1 == a3_1) && ((r124.2.2.1 == a3_2) && ((r124.2.2.2.1 == a3_3) && ((r124.2.2.2.2.1 == a3_4) && ((r124.2.2.2.2.2.1 == a3_5) && true))))))) then
    some false
   else
    bif (!((r129.2).isNone)) then
     some false
    else
     bif (!((r134.2.2.2.2.2.2).isNone)) then
      some false
     else
      bif (!((r134.1 == a3_0) && ((r134.2.1 == a3_1) && ((r134.2.2.1 == a3_2) && ((r134.2.2.2.1 == a3_3) && ((r134.2.2.2.2.1 == a3_4) && ((r134.2.2.2.2.2.1 == a3_5) && true))))))) then
       some false
      else
       lBack_j2 n a4 r41
 else
  lBack_j2 n a4 r41
def lBack (n : Nat) (a0 : Int) (a1 : List UInt32) (a2 : List UInt32) (a3_0 : Int) (a3_1 : Int) (a3_2 : Int) (a3_3 : Int) (a3_4 : Int) (a3_5 : Int) (a4 : List UInt8) : Option (Bool) :=
 (pup n).bind fun r41 =>
 bif (decide ((60 : Int) < ((a1.length : Nat) : Int))) then
  some r41
 else
  bif (decide ((50 : Int) < ((a2.length : Nat) : Int))) then
   some r41
  else
   bif (decide ((200 : Int) < ((a4.length : Nat) : Int))) then
    some r41
   else
    (pInt n a0).bind fun r58 =>
    (pReadInt n r58).bind fun r59 =>
    bif (!((r59.2).isNone)) then
     some false
    else
     bif (r59.1 != a0) then
      some false
     else
      (pBig n a1).bind fun r71 =>
      (pReadBig n r71.1).bind fun r76 =>
      bif (!((r71.2).isNone)) then
       some false
      else
       bif (!((r76.2.2).isNone)) then
        some false
       else
        (rOf n r76.1).bind fun r87 =>
        (rOf n a1).bind fun r89 =>
        (rCmp n r87.1 r89.1).bind fun r90 =>
        bif (r90 != 0) then
         some false
        else
         (pOid n a2).bind fun r95 =>
         bif ((r95.2).isNone) then
          (pReadOid n r95.1).bind fun r102 =>
          bif (!((r102.2).isNone)) then
           some false
          else
           (lsame n r102.1 a2).bind fun r110 =>
           bif (!r110) then
            some false
           else
            lBack_j1 n a3_0 a3_1 a3_2 a3_3 a3_4 a3_5 a4 r41
         else
          lBack_j1 n a3_0 a3_1 a3_2 a3_3 a3_4 a3_5 a4 r41
def rCmp_l1_E (a0 : List Int) (a1 : List Int) (i5_2 : Int) : S := ⟨[(0, kH 0), (1, kH 1), (5, kI i5_2)], [], [oz 3 a0, oz 3 a1]⟩
abbrev rCmp_l1_P (n : Nat) (a0 : List Int) (a1 : List Int) (r : Int) (fu : Nat) : S → Prop := fun s => ∃ (i5_2 : Int), s = rCmp_l1_E a0 a1 i5_2 ∧ rCmp_l1 n a0 a1 fu i5_2 = some r
def rCmp_R (r : Int) : S := ⟨[(4, kI r)], [], []⟩
def rCmp_ct (n : Nat) (r : Int) : Ct := ctc (rZ 3).rd fun _ l0 => ctc (rZ 3).rd fun _ l1 => ct0 fun H => ([rCmp n l0 l1 = some r], shA H.length (kI r), shH H.length [])
theorem rCmp_ok (n : Nat) (r : Int) : FnOk Try.prog Tr 46 (rCmp_ct n r) := by
 refine fnok Try.func46 ?_
 refine HO_c (rZ 3) fun l0 _ => HO_c (rZ 3) fun l1 _ => HO_0 tabO_pn (rCmp_R r) [.tmp 4] [] 41 Try.func46 fun w hG h => ?_
 unfold rCmp at h
 have hT := tabO_pn
 refine Vrs hT [0, 1] ⟨[(0, kH 0), (1, kH 1)], [], [oz 3 l0, oz 3 l1]⟩ ?_
 refine W_seq ?_
 refine Vrs hT [0, 1] ⟨[(0, kH 0), (1, kH 1), (10, kB (((l0.length : Nat) : Int) != ((l1.length : Nat) : Int)))], [], [oz 3 l0, oz 3 l1]⟩ ?_
 refine Vi ((((l0.length : Nat) : Int) != ((l1.length : Nat) : Int))) (fun g15 => ?_) (fun g15 => ?_)
 ·replace h := bif_t h g15
  refine W_seq ?_
  refine Vrs hT [] ⟨[(15, kB (decide (((l0.length : Nat) : Int) < ((l1.length : Nat) : Int))))], [], []⟩ ?_
  refine Vi ((decide (((l0.length : Nat) : Int) < ((l1.length : Nat) : Int)))) (fun g1 => ?_) (fun g1 => ?_)
  ·replace h := bif_t h g1
   refine Vrs hT [] ⟨[(4, kI (-1))], [], []⟩ ?_
   refine Vc [] [] (rCmp_R (-1)) (W_ret ?_)
   exact ⟨.inl rfl, by cases h; rfl⟩
  ·replace h := bif_f h g1
   refine W_skip ?_
   refine Vrs hT [] ⟨[(4, kI 1)], [], []⟩ ?_
   refine Vc [] [] (rCmp_R 1) (W_ret ?_)
   exact ⟨.inl rfl, by cases h; rfl⟩
 ·replace h := bif_f h g15
  refine W_skip ?_
  refine W_seq ?_
  obtain ⟨g2, h⟩ := gd_some h
  refine Vgs hT fN [] [] [0, 1] ⟨[(0, kH 0), (1, kH 1), (5, kI (((l0.length : Nat) : Int) - 1))], [], [oz 3 l0, oz 3 l1]⟩ (aP g2 aN) ?_
  refine W_block ?_
  refine Vc [] [0, 1] (rCmp_l1_E l0 l1 (((l0.length : Nat) : Int) - 1)) (W_lp ((rCmp_l1_P n l0 l1 r)) n ⟨_, rfl, h⟩ ?_)
  rintro fu_l1 _ ⟨i5_2, rfl, h⟩
  cases fu_l1 with
  | zero => cases h
  | succ fu_l1 =>
   refine ⟨fu_l1, rfl, ?_⟩
   rw [rCmp_l1] at h
   refine W_seq ?_
   refine Vrs hT [0, 1] ⟨[(0, kH 0), (1, kH 1), (5, kI i5_2), (20, kB (decide ((0 : Int) ≤ i5_2)))], [], [oz 3 l0, oz 3 l1]⟩ ?_
   refine Vi ((decide ((0 : Int) ≤ i5_2))) (fun g14 => ?_) (fun g14 => ?_)
   ·replace h := bif_t h g14
    refine W_skip ?_
    refine W_seq ?_
    refine W_block ?_
    obtain ⟨g3, g4, g5, g6, h⟩ := gd4 h
    refine Vds hT fN 8 [] [(0, false), (1, false), (5, false), (26, false), (30, false)] [] [0, 1] ⟨[(0, kH 0), (1, kH 1), (5, kI i5_2), (31, kB ((l0.getD i5_2.toNat 0) != (l1.getD i5_2.toNat 0)))], [], [oz 3 l0, oz 3 l1]⟩ (aP g3 (aP g4 (aP g5 (aP g6 aN)))) ?_
    refine Vi (((l0.getD i5_2.toNat 0) != (l1.getD i5_2.toNat 0))) (fun g13 => ?_) (fun g13 => ?_)
    ·replace h := bif_t h g13
     refine W_seq ?_
     obtain ⟨g7, g8, g9, g10, h⟩ := gd4 h
     refine Vds hT fN 8 [] [(35, false), (39, false)] [] [] ⟨[(40, kB (decide ((l0.getD i5_2.toNat 0) < (l1.getD i5_2.toNat 0))))], [], []⟩ (aP g7 (aP g8 (aP g9 (aP g10 aN)))) ?_
     refine Vi ((decide ((l0.getD i5_2.toNat 0) < (l1.getD i5_2.toNat 0)))) (fun g11 => ?_) (fun g11 => ?_)
     ·replace h := bif_t h g11
      refine Vrs hT [] ⟨[(4, kI (-1))], [], []⟩ ?_
      refine Vc [] [] (rCmp_R (-1)) (W_ret ?_)
      exact ⟨.inl rfl, by cases h; rfl⟩
     ·replace h := bif_f h g11
      refine W_skip ?_
      refine Vrs hT [] ⟨[(4, kI 1)], [], []⟩ ?_
      refine Vc [] [] (rCmp_R 1) (W_ret ?_)
      exact ⟨.inl rfl, by cases h; rfl⟩
    ·replace h := bif_f h g13
     refine W_skip ?_
     obtain ⟨g12, h⟩ := gd_some h
     refine Vg hT fN [] [] [0, 1] (rCmp_l1_E l0 l1 (i5_2 - 1)) (aP g12 aN) ?_
     exact ⟨_, rfl, h⟩
   ·replace h := bif_f h g14
    refine Vc [] [] ⟨[], [], []⟩ (W_exit ?_)
    refine Vrs hT [] ⟨[(4, kI 0)], [], []⟩ ?_
    refine Vc [] [] (rCmp_R 0) (W_ret ?_)
    exact ⟨.inl rfl, by cases h; rfl⟩
def lBack_j4_E (r41 : Bool) : S := ⟨[(11, kB r41)], [], []⟩
abbrev lBack_j4_P (n : Nat) (r41 : Bool) (r : Bool) : S → Prop := fun s => s = lBack_j4_E r41 ∧ lBack_j4 n r41 = some r
def lBack_j3_E (a4 : List UInt8) (r41 : Bool) (r169 : List UInt8 × Int × Option Int) : S := ⟨[(4, kH 0), (11, kB r41), (35, kP 1 0), (36, kE 31 r169.2.2)], [], [ob 5 a4, ⟨.blk, 45, 1, 2, .c [.wh 2, .s (.k .i64 r169.2.1)]⟩, nb 5 r169.1]⟩
abbrev lBack_j3_P (n : Nat) (a4 : List UInt8) (r41 : Bool) (r169 : List UInt8 × Int × Option Int) (r : Bool) : S → Prop := fun s => s = lBack_j3_E a4 r41 r169 ∧ lBack_j3 n a4 r41 r169 = some r
def lBack_j6_E (r41 : Bool) : S := ⟨[(11, kB r41)], [], []⟩
abbrev lBack_j6_P (n : Nat) (r41 : Bool) (r : Bool) : S → Prop := fun s => s = lBack_j6_E r41 ∧ lBack_j6 n r41 = some r
def lBack_j5_E (a4 : List UInt8) (r41 : Bool) (r169 : List UInt8 × Int × Option Int) : S := ⟨[(4, kH 0), (11, kB r41), (35, kP 1 0), (36, kE 31 r169.2.2)], [], [ob 5 a4, ⟨.blk, 45, 1, 2, .c [.wh 2, .s (.k .i64 r169.2.1)]⟩, nb 5 r169.1]⟩
abbrev lBack_j5_P (n : Nat) (a4 : List UInt8) (r41 : Bool) (r169 : List UInt8 × Int × Option Int) (r : Bool) : S → Prop := fun s => s = lBack_j5_E a4 r41 r169 ∧ lBack_j5 n a4 r41 r169 = some r
def lBack_j2_E (a4 : List UInt8) (r41 : Bool) : S := ⟨[(4, kH 0), (11, kB r41)], [], [ob 5 a4]⟩
abbrev lBack_j2_P (n : Nat) (a4 : List UInt8) (r41 : Bool) (r : Bool) : S → Prop := fun s => s = lBack_j2_E a4 r41 ∧ lBack_j2 n a4 r41 = some r
def lBack_j1_E (a3_0 : Int) (a3_1 : Int) (a3_2 : Int) (a3_3 : Int) (a3_4 : Int) (a3_5 : Int) (a4 : List UInt8) (r41 : Bool) : S := ⟨[(4, kH 0), (8, kP 1 0), (11, kB r41)], [], [ob 5 a4, ⟨.blk, 34, 1, 6, .c [.s (.k .i64 a3_0), .s (.k .i64 a3_1), .s (.k .i64 a3_2), .s (.k .i64 a3_3), .s (.k .i64 a3_4), .s (.k .i64 a3_5)]⟩]⟩
abbrev lBack_j1_P (n : Nat) (a3_0 : Int) (a3_1 : Int) (a3_2 : Int) (a3_3 : Int) (a3_4 : Int) (a3_5 : Int) (a4 : List UInt8) (r41 : Bool) (r : Bool) : S → Prop := fun s => s = lBack_j1_E a3_0 a3_1 a3_2 a3_3 a3_4 a3_5 a4 r41 ∧ lBack_j1 n a3_0 a3_1 a3_2 a3_3 a3_4 a3_5 a4 r41 = some r
def lBack_R (r : Bool) : S := ⟨[(10, kB r)], [], []⟩
def lBack_ct (n : Nat) (r : Bool) : Ct := ctc rI.rd fun _ l0 => ctc (rW 89).rd fun _ l1 => ctc (rW 89).rd fun _ l2 => ctc (rSt (lC cI (lC cI (lC cI (lC cI (lC cI (lC cI lN))))))).rd fun _ y3 => ctc (rB 5).rd fun _ l4 => ct0 fun H => ([lBack n l0 l1 l2 y3.1 y3.2.1 y3.2.2.1 y3.2.2.2.1 y3.2.2.2.2.1 y3.2.2.2.2.2.1 l4 = some r], shA H.length (kB r), shH H.length [])
theorem lBack_ok (n : Nat) (r : Bool) : FnOk Try.prog Tr 12 (lBack_ct n r) := by
 refine fnok Try.func12 ?_
 refine HO_c rI fun l0 _ => HO_c (rW 89) fun l1 _ => HO_c (rW 89) fun l2 _ => HO_c (rSt (lC cI (lC cI (lC cI (lC cI (lC cI (lC cI lN))))))) fun p3 _ => ?_
 obtain ⟨l3_0, l3_1, l3_2, l3_3, l3_4, l3_5, _⟩ := p3
 refine HO_c (rB 5) fun l4 _ => HO_0 tabO_pn (lBack_R r) [.tmp 10] [] 215 Try.func12 fun w hG h => ?_
 have h : lBack n l0 l1 l2 l3_0 l3_1 l3_2 l3_3 l3_4 l3_5 l4 = some r := h
 unfold lBack at h
 have hT := tabO_pn
 refine Vrs hT [0, 1, 2, 3] ⟨[(0, kI l0), (1, kH 0), (2, kH 1), (4, kH 2), (8, kP 3 0)], [], [ow 89 l1, ow 89 l2, ob 5 l4, ⟨.blk, 34, 1, 6, .c [.s (.k .i64 l3_0), .s (.k .i64 l3_1), .s (.k .i64 l3_2), .s (.k .i64 l3_3), .s (.k .i64 l3_4), .s (.k .i64 l3_5)]⟩]⟩ ?_
 obtain ⟨r41, g1, h⟩ := bind_some' h
 refine Vgs hT (fT 0 (pup_ok n r41) fN) [] [] [0, 1, 2, 3] ⟨[(0, kI l0), (1, kH 0), (2, kH 1), (4, kH 2), (8, kP 3 0), (11, kB r41)], [], [ow 89 l1, ow 89 l2, ob 5 l4, ⟨.blk, 34, 1, 6, .c [.s (.k .i64 l3_0), .s (.k .i64 l3_1), .s (.k .i64 l3_2), .s (.k .i64 l3_3), .s (.k .i64 l3_4), .s (.k .i64 l3_5)]⟩]⟩ (aP g1 aN) ?_
 refine W_seq ?_
 refine W_seq ?_
 rcases Bool.eq_false_or_eq_true (decide ((60 : Int) < ((l1.length : Nat) : Int))) with g2 | g2
 ·replace h := bif_t h g2
  refine Vg hT fN [(3, true)] [] [0, 1, 2, 3] ⟨[(0, kI l0), (1, kH 0), (2, kH 1), (4, kH 2), (8, kP 3 0), (11, kB r41), (54, kB true)], [], [ow 89 l1, ow 89 l2, ob 5 l4, ⟨.blk, 34, 1, 6, .c [.s (.k .i64 l3_0), .s (.k .i64 l3_1), .s (.k .i64 l3_2), .s (.k .i64 l3_3), .s (.k .i64 l3_4), .s (.k .i64 l3_5)]⟩]⟩ (aP g2 aN) ?_
  refine Vi (true) (fun _ => ?_) (fun hb => by cases hb)
  refine Vrs hT [] ⟨[(10, kB r41)], [], []⟩ ?_
  refine Vc [] [] (lBack_R r41) (W_ret ?_)
  exact ⟨.inl rfl, by cases h; rfl⟩
 ·replace h := bif_f h g2
  rcases Bool.eq_false_or_eq_true (decide ((50 : Int) < ((l2.length : Nat) : Int))) with g3 | g3
  ·replace h := bif_t h g3
   refine Vg hT fN [(3, false), (8, true)] [] [0, 1, 2, 3] ⟨[(0, kI l0), (1, kH 0), (2, kH 1), (4, kH 2), (8, kP 3 0), (11, kB r41), (54, kB true)], [], [ow 89 l1, ow 89 l2, ob 5 l4, ⟨.blk, 34, 1, 6, .c [.s (.k .i64 l3_0), .s (.k .i64 l3_1), .s (.k .i64 l3_2), .s (.k .i64 l3_3), .s (.k .i64 l3_4), .s (.k .i64 l3_5)]⟩]⟩ (aP g2 (aP g3 aN)) ?_
   refine Vi (true) (fun _ => ?_) (fun hb => by cases hb)
   refine Vrs hT [] ⟨[(10, kB r41)], [], []⟩ ?_
   refine Vc [] [] (lBack_R r41) (W_ret ?_)
   exact ⟨.inl rfl, by cases h; rfl⟩
  ·replace h := bif_f h g3
   refine Vg hT fN [(3, false), (8, false)] [] [0, 1, 2, 3] ⟨[(0, kI l0), (1, kH 0), (2, kH 1), (4, kH 2), (8, kP 3 0), (11, kB r41), (54, kB (decide ((200 : Int) < ((l4.length : Nat) : Int))))], [], [ow 89 l1, ow 89 l2, ob 5 l4, ⟨.blk, 34, 1, 6, .c [.s (.k .i64 l3_0), .s (.k .i64 l3_1), .s (.k .i64 l3_2), .s (.k .i64 l3_3), .s (.k .i64 l3_4), .s (.k .i64 l3_5)]⟩]⟩ (aP g2 (aP g3 aN)) ?_
   refine Vi ((decide ((200 : Int) < ((l4.length : Nat) : Int)))) (fun g54 => ?_) (fun g54 => ?_)
   ·replace h := bif_t h g54
    refine Vrs hT [] ⟨[(10, kB r41)], [], []⟩ ?_
    refine Vc [] [] (lBack_R r41) (W_ret ?_)
    exact ⟨.inl rfl, by cases h; rfl⟩
   ·replace h := bif_f h g54
    refine W_skip ?_
    obtain ⟨r58, g4, h⟩ := bind_some' h
    obtain ⟨r59, g5, h⟩ := bind_some' h
    refine Vgs hT (fT 1 (pInt_ok n r58) (fT 2 (pReadInt_ok n r59) fN)) [] [] [0, 1, 2, 3] ⟨[(0, kI l0), (1, kH 0), (2, kH 1), (4, kH 2), (8, kP 3 0), (11, kB r41), (12, kI r59.1), (13, kE 31 r59.2)], [], [ow 89 l1, ow 89 l2, ob 5 l4, ⟨.blk, 34, 1, 6, .c [.s (.k .i64 l3_0), .s (.k .i64 l3_1), .s (.k .i64 l3_2), .s (.k .i64 l3_3), .s (.k .i64 l3_4), .s (.k .i64 l3_5)]⟩]⟩ (aP g4 (aP g5 aN)) ?_
    refine W_seq ?_
    refine W_seq ?_
    rcases Bool.eq_false_or_eq_true (!((r59.2).isNone)) with g6 | g6
    ·replace h := bif_t h g6
     refine Vg hT fN [(2, true)] [] [0, 1, 2, 3] ⟨[(1, kH 0), (2, kH 1), (4, kH 2), (8, kP 3 0), (11, kB r41), (68, kB true)], [], [ow 89 l1, ow 89 l2, ob 5 l4, ⟨.blk, 34, 1, 6, .c [.s (.k .i64 l3_0), .s (.k .i64 l3_1), .s (.k .i64 l3_2), .s (.k .i64 l3_3), .s (.k .i64 l3_4), .s (.k .i64 l3_5)]⟩]⟩ (aP g6 aN) ?_
     refine Vi (true) (fun _ => ?_) (fun hb => by cases hb)
     refine Vrs hT [] ⟨[(10, kB false)], [], []⟩ ?_
     refine Vc [] [] (lBack_R false) (W_ret ?_)
     exact ⟨.inl rfl, by cases h; rfl⟩
    ·replace h := bif_f h g6
     refine Vg hT fN [(2, false)] [] [0, 1, 2, 3] ⟨[(1, kH 0), (2, kH 1), (4, kH 2), (8, kP 3 0), (11, kB r41), (68, kB (r59.1 != l0))], [], [ow 89 l1, ow 89 l2, ob 5 l4, ⟨.blk, 34, 1, 6, .c [.s (.k .i64 l3_0), .s (.k .i64 l3_1), .s (.k .i64 l3_2), .s (.k .i64 l3_3), .s (.k .i64 l3_4), .s (.k .i64 l3_5)]⟩]⟩ (aP g6 aN) ?_
     refine Vi ((r59.1 != l0)) (fun g53 => ?_) (fun g53 => ?_)
     ·replace h := bif_t h g53
      refine Vrs hT [] ⟨[(10, kB false)], [], []⟩ ?_
      refine Vc [] [] (lBack_R false) (W_ret ?_)
      exact ⟨.inl rfl, by cases h; rfl⟩
     ·replace h := bif_f h g53
      refine W_skip ?_
      obtain ⟨r71, g7, h⟩ := bind_some' h
      refine Vgs hT (fT 1 (pBig_ok n r71) fN) [] [] [0, 1, 2, 3, 4] ⟨[(1, kH 0), (2, kH 1), (4, kH 2), (8, kP 3 0), (11, kB r41), (14, kH 4), (15, kE 31 r71.2)], [], [ow 89 l1, ow 89 l2, ob 5 l4, ⟨.blk, 34, 1, 6, .c [.s (.k .i64 l3_0), .s (.k .i64 l3_1), .s (.k .i64 l3_2), .s (.k .i64 l3_3), .s (.k .i64 l3_4), .s (.k .i64 l3_5)]⟩, nb 5 r71.1]⟩ (aP g7 aN) ?_
      obtain ⟨r76, g8, h⟩ := bind_some' h
      refine Vgs hT (fT 1 (pReadBig_ok n r76) fN) [] [] [0, 1, 2, 3, 5] ⟨[(1, kH 0), (2, kH 1), (4, kH 2), (8, kP 3 0), (11, kB r41), (15, kE 31 r71.2), (16, kH 4), (17, kE 31 r76.2.2)], [], [ow 89 l1, ow 89 l2, ob 5 l4, ⟨.blk, 34, 1, 6, .c [.s (.k .i64 l3_0), .s (.k .i64 l3_1), .s (.k .i64 l3_2), .s (.k .i64 l3_3), .s (.k .i64 l3_4), .s (.k .i64 l3_5)]⟩, ⟨.row, 89, 1, r76.2.1, .w r76.1⟩]⟩ (aP g8 aN) ?_
      refine W_seq ?_
      refine W_seq ?_
      rcases Bool.eq_false_or_eq_true (!((r71.2).isNone)) with g9 | g9
      ·replace h := bif_t h g9
       refine Vg hT fN [(2, true)] [] [1, 2, 3] ⟨[(2, kH 0), (4, kH 1), (8, kP 2 0), (11, kB r41), (92, kB true)], [], [ow 89 l2, ob 5 l4, ⟨.blk, 34, 1, 6, .c [.s (.k .i64 l3_0), .s (.k .i64 l3_1), .s (.k .i64 l3_2), .s (.k .i64 l3_3), .s (.k .i64 l3_4), .s (.k .i64 l3_5)]⟩]⟩ (aP g9 aN) ?_
       refine Vi (true) (fun _ => ?_) (fun hb => by cases hb)
       refine Vrs hT [] ⟨[(10, kB false)], [], []⟩ ?_
       refine Vc [] [] (lBack_R false) (W_ret ?_)
       exact ⟨.inl rfl, by cases h; rfl⟩
      ·replace h := bif_f h g9
       rcases Bool.eq_false_or_eq_true (!((r76.2.2).isNone)) with g10 | g10
       ·replace h := bif_t h g10
        refine Vg hT fN [(2, false), (6, true)] [] [1, 2, 3] ⟨[(2, kH 0), (4, kH 1), (8, kP 2 0), (11, kB r41), (92, kB true)], [], [ow 89 l2, ob 5 l4, ⟨.blk, 34, 1, 6, .c [.s (.k .i64 l3_0), .s (.k .i64 l3_1), .s (.k .i64 l3_2), .s (.k .i64 l3_3), .s (.k .i64 l3_4), .s (.k .i64 l3_5)]⟩]⟩ (aP g9 (aP g10 aN)) ?_
        refine Vi (true) (fun _ => ?_) (fun hb => by cases hb)
        refine Vrs hT [] ⟨[(10, kB false)], [], []⟩ ?_
        refine Vc [] [] (lBack_R false) (W_ret ?_)
        exact ⟨.inl rfl, by cases h; rfl⟩
       ·replace h := bif_f h g10
        obtain ⟨r87, g11, h⟩ := bind_some' h
        obtain ⟨r89, g12, h⟩ := bind_some' h
        obtain ⟨r90, g13, h⟩ := bind_some' h
        refine Vg hT (fT 8 (rOf_ok n r87) (fT 10 (rOf_ok n r89) (fT 11 (rCmp_ok n r90) fN))) [(2, false), (6, false)] [] [1, 2, 3] ⟨[(2, kH 0), (4, kH 1), (8, kP 2 0), (11, kB r41), (92, kB (r90 != 0))], [], [ow 89 l2, ob 5 l4, ⟨.blk, 34, 1, 6, .c [.s (.k .i64 l3_0), .s (.k .i64 l3_1), .s (.k .i64 l3_2), .s (.k .i64 l3_3), .s (.k .i64 l3_4), .s (.k .i64 l3_5)]⟩]⟩ (aP g9 (aP g10 (aP g11 (aP g12 (aP g13 aN))))) ?_
        refine Vi ((r90 != 0)) (fun g52 => ?_) (fun g52 => ?_)
        ·replace h := bif_t h g52
         refine Vrs hT [] ⟨[(10, kB false)], [], []⟩ ?_
         refine Vc [] [] (lBack_R false) (W_ret ?_)
         exact ⟨.inl rfl, by cases h; rfl⟩
        ·replace h := bif_f h g52
         refine W_skip ?_
         obtain ⟨r95, g14, h⟩ := bind_some' h
         refine Vgs hT (fT 1 (pOid_ok n r95) fN) [] [] [0, 1, 2, 3] ⟨[(2, kH 0), (4, kH 1), (8, kP 2 0), (11, kB r41), (18, kH 3), (19, kE 31 r95.2)], [], [ow 89 l2, ob 5 l4, ⟨.blk, 34, 1, 6, .c [.s (.k .i64 l3_0), .s (.k .i64 l3_1), .s (.k .i64 l3_2), .s (.k .i64 l3_3), .s (.k .i64 l3_4), .s (.k .i64 l3_5)]⟩, nb 5 r95.1]⟩ (aP g14 aN) ?_
         refine W_join (lBack_j1_P n l3_0 l3_1 l3_2 l3_3 l3_4 l3_5 l4 r41 r) ?_ ?_
         ·rintro _ ⟨rfl, h⟩
          unfold lBack_j1 at h
          obtain ⟨r115, g15, h⟩ := bind_some' h
          refine Vgs hT (fT 1 (pTime_ok n r115) fN) [] [] [0, 1, 2] ⟨[(4, kH 0), (8, kP 1 0), (11, kB r41), (22, kU r115.1), (23, kH 2), (24, kE 31 r115.2.2)], [], [ob 5 l4, ⟨.blk, 34, 1, 6, .c [.s (.k .i64 l3_0), .s (.k .i64 l3_1), .s (.k .i64 l3_2), .s (.k .i64 l3_3), .s (.k .i64 l3_4), .s (.k .i64 l3_5)]⟩, nb 5 r115.2.1]⟩ (aP g15 aN) ?_
          refine W_join (lBack_j2_P n l4 r41 r) ?_ ?_
          ·rintro _ ⟨rfl, h⟩
           unfold lBack_j2 at h
           obtain ⟨r159, g16, h⟩ := bind_some' h
           refine Vgs hT (fT 1 (pReadInt_ok n r159) fN) [] [] [0] ⟨[(4, kH 0), (11, kB r41), (31, kI r159.1), (32, kE 31 r159.2)], [], [ob 5 l4]⟩ (aP g16 aN) ?_
           obtain ⟨r164, g17, h⟩ := bind_some' h
           refine Vgs hT (fT 1 (pReadOid_ok n r164) fN) [] [] [0, 1] ⟨[(4, kH 0), (11, kB r41), (31, kI r159.1), (32, kE 31 r159.2), (33, kH 1), (34, kE 31 r164.2)], [], [ob 5 l4, nw 89 r164.1]⟩ (aP g17 aN) ?_
           obtain ⟨r169, g18, h⟩ := bind_some' h
           refine Vgs hT (fT 1 (pReadBits_ok n r169) fN) [] [] [0, 1, 3, 2] ⟨[(4, kH 0), (11, kB r41), (31, kI r159.1), (32, kE 31 r159.2), (33, kH 1), (34, kE 31 r164.2), (35, kP 2 0), (36, kE 31 r169.2.2)], [], [ob 5 l4, nw 89 r164.1, ⟨.blk, 45, 1, 2, .c [.wh 3, .s (.k .i64 r169.2.1)]⟩, nb 5 r169.1]⟩ (aP g18 aN) ?_
           refine W_seq ?_
           refine W_seq ?_
           rcases Bool.eq_false_or_eq_true ((r159.2).isNone) with g19 | g19
           ·replace h := bif_t h g19
            obtain ⟨r176, g20, h⟩ := bind_some' h
            refine Vd hT (fT 4 (pInt_ok n r176) fN) 8 [(2, true)] [(4, false), (11, false), (33, false), (34, false), (35, false), (36, false), (174, false), (177, false), (179, false)] [] [0, 1, 2, 3] ⟨[(4, kH 0), (11, kB r41), (33, kH 1), (34, kE 31 r164.2), (35, kP 2 0), (36, kE 31 r169.2.2), (181, kB (r176 != l4))], [], [ob 5 l4, nw 89 r164.1, ⟨.blk, 45, 1, 2, .c [.wh 3, .s (.k .i64 r169.2.1)]⟩, nb 5 r169.1]⟩ (aP g19 (aP g20 aN)) ?_
            refine Vi ((r176 != l4)) (fun g29 => ?_) (fun g29 => ?_)
            ·replace h := bif_t h g29
             refine Vrs hT [] ⟨[(10, kB false)], [], []⟩ ?_
             refine Vc [] [] (lBack_R false) (W_ret ?_)
             exact ⟨.inl rfl, by cases h; rfl⟩
            ·replace h := bif_f h g29
             refine Vc [] [0, 1, 2, 3] ⟨[(4, kH 0), (11, kB r41), (33, kH 1), (34, kE 31 r164.2), (35, kP 2 0), (36, kE 31 r169.2.2)], [], [ob 5 l4, nw 89 r164.1, ⟨.blk, 45, 1, 2, .c [.wh 3, .s (.k .i64 r169.2.1)]⟩, nb 5 r169.1]⟩ (W_skip ?_)
             refine W_join (lBack_j3_P n l4 r41 r169 r) ?_ ?_
             ·rintro _ ⟨rfl, h⟩
              unfold lBack_j3 at h
              refine W_join (lBack_j4_P n r41 r) ?_ ?_
              ·rintro _ ⟨rfl, h⟩
               unfold lBack_j4 at h
               refine Vrs hT [] ⟨[(10, kB r41)], [], []⟩ ?_
               refine Vc [] [] (lBack_R r41) (W_ret ?_)
               exact ⟨.inl rfl, by cases h; rfl⟩
              ·refine W_seq ?_
               refine Vr hT [0, 1, 2] ⟨[(4, kH 0), (11, kB r41), (35, kP 1 0), (199, kB ((r169.2.2).isNone))], [], [ob 5 l4, ⟨.blk, 45, 1, 2, .c [.wh 2, .s (.k .i64 r169.2.1)]⟩, nb 5 r169.1]⟩ ?_
               refine Vi ((r169.2.2).isNone) (fun g24 => ?_) (fun g24 => ?_)
               ·replace h := bif_t h g24
                obtain ⟨r202, g21, h⟩ := bind_some' h
                refine Vgs hT (fT 1 (pBits_ok n r202) fN) [] [] [0, 3] ⟨[(4, kH 0), (11, kB r41), (39, kH 1), (40, kE 31 r202.2)], [], [ob 5 l4, nb 5 r202.1]⟩ (aP g21 aN) ?_
                refine W_seq ?_
                rcases Bool.eq_false_or_eq_true (!((r202.2).isNone)) with g22 | g22
                ·replace h := bif_t h g22
                 refine Vg hT fN [(2, true)] [] [] ⟨[(11, kB r41), (213, kB true)], [], []⟩ (aP g22 aN) ?_
                 refine Vi (true) (fun _ => ?_) (fun hb => by cases hb)
                 refine Vrs hT [] ⟨[(10, kB false)], [], []⟩ ?_
                 refine Vc [] [] (lBack_R false) (W_ret ?_)
                 exact ⟨.inl rfl, by cases h; rfl⟩
                ·replace h := bif_f h g22
                 refine Vg hT fN [(2, false)] [] [] ⟨[(11, kB r41), (213, kB (r202.1 != l4))], [], []⟩ (aP g22 aN) ?_
                 refine Vi ((r202.1 != l4)) (fun g23 => ?_) (fun g23 => ?_)
                 ·replace h := bif_t h g23
                  refine Vrs hT [] ⟨[(10, kB false)], [], []⟩ ?_
                  refine Vc [] [] (lBack_R false) (W_ret ?_)
                  exact ⟨.inl rfl, by cases h; rfl⟩
                 ·replace h := bif_f h g23
                  refine Vc [] [] (lBack_j4_E r41) (W_skip ?_)
                  exact ⟨rfl, h⟩
               ·replace h := bif_f h g24
                refine Vc [] [] (lBack_j4_E r41) (W_skip ?_)
                exact ⟨rfl, h⟩
             ·refine W_seq ?_
              refine Vr hT [0, 1, 2, 3] ⟨[(4, kH 0), (11, kB r41), (33, kH 1), (35, kP 2 0), (36, kE 31 r169.2.2), (183, kB ((r164.2).isNone))], [], [ob 5 l4, nw 89 r164.1, ⟨.blk, 45, 1, 2, .c [.wh 3, .s (.k .i64 r169.2.1)]⟩, nb 5 r169.1]⟩ ?_
              refine Vi ((r164.2).isNone) (fun g28 => ?_) (fun g28 => ?_)
              ·replace h := bif_t h g28
               obtain ⟨r186, g25, h⟩ := bind_some' h
               refine Vgs hT (fT 1 (pOid_ok n r186) fN) [] [] [0, 2, 3, 4] ⟨[(4, kH 0), (11, kB r41), (35, kP 1 0), (36, kE 31 r169.2.2), (37, kH 3), (38, kE 31 r186.2)], [], [ob 5 l4, ⟨.blk, 45, 1, 2, .c [.wh 2, .s (.k .i64 r169.2.1)]⟩, nb 5 r169.1, nb 5 r186.1]⟩ (aP g25 aN) ?_
               refine W_seq ?_
               rcases Bool.eq_false_or_eq_true (!((r186.2).isNone)) with g26 | g26
               ·replace h := bif_t h g26
                refine Vg hT fN [(2, true)] [] [0, 1, 2] ⟨[(4, kH 0), (11, kB r41), (35, kP 1 0), (36, kE 31 r169.2.2), (197, kB true)], [], [ob 5 l4, ⟨.blk, 45, 1, 2, .c [.wh 2, .s (.k .i64 r169.2.1)]⟩, nb 5 r169.1]⟩ (aP g26 aN) ?_
                refine Vi (true) (fun _ => ?_) (fun hb => by cases hb)
                refine Vrs hT [] ⟨[(10, kB false)], [], []⟩ ?_
                refine Vc [] [] (lBack_R false) (W_ret ?_)
                exact ⟨.inl rfl, by cases h; rfl⟩
               ·replace h := bif_f h g26
                refine Vg hT fN [(2, false)] [] [0, 1, 2] ⟨[(4, kH 0), (11, kB r41), (35, kP 1 0), (36, kE 31 r169.2.2), (197, kB (r186.1 != l4))], [], [ob 5 l4, ⟨.blk, 45, 1, 2, .c [.wh 2, .s (.k .i64 r169.2.1)]⟩, nb 5 r169.1]⟩ (aP g26 aN) ?_
                refine Vi ((r186.1 != l4)) (fun g27 => ?_) (fun g27 => ?_)
                ·replace h := bif_t h g27
                 refine Vrs hT [] ⟨[(10, kB false)], [], []⟩ ?_
                 refine Vc [] [] (lBack_R false) (W_ret ?_)
                 exact ⟨.inl rfl, by cases h; rfl⟩
                ·replace h := bif_f h g27
                 refine Vc [] [0, 1, 2] (lBack_j3_E l4 r41 r169) (W_skip ?_)
                 exact ⟨rfl, h⟩
              ·replace h := bif_f h g28
               refine Vc [] [0, 2, 3] (lBack_j3_E l4 r41 r169) (W_skip ?_)
               exact ⟨rfl, h⟩
           ·replace h := bif_f h g19
            refine Vd hT fN 8 [(2, false)] [(4, false), (11, false), (33, false), (34, false), (35, false), (36, false), (174, false), (177, false), (179, false)] [] [0, 1, 2, 3] ⟨[(4, kH 0), (11, kB r41), (33, kH 1), (34, kE 31 r164.2), (35, kP 2 0), (36, kE 31 r169.2.2), (181, kB false)], [], [ob 5 l4, nw 89 r164.1, ⟨.blk, 45, 1, 2, .c [.wh 3, .s (.k .i64 r169.2.1)]⟩, nb 5 r169.1]⟩ (aP g19 aN) ?_
            refine Vi (false) (fun hb => by cases hb) (fun _ => ?_)
            refine Vc [] [0, 1, 2, 3] ⟨[(4, kH 0), (11, kB r41), (33, kH 1), (34, kE 31 r164.2), (35, kP 2 0), (36, kE 31 r169.2.2)], [], [ob 5 l4, nw 89 r164.1, ⟨.blk, 45, 1, 2, .c [.wh 3, .s (.k .i64 r169.2.1)]⟩, nb 5 r169.1]⟩ (W_skip ?_)
            refine W_join (lBack_j5_P n l4 r41 r169 r) ?_ ?_
            ·rintro _ ⟨rfl, h⟩
             unfold lBack_j5 at h
             refine W_join (lBack_j6_P n r41 r) ?_ ?_
             ·rintro _ ⟨rfl, h⟩
              unfold lBack_j6 at h
              refine Vrs hT [] ⟨[(10, kB r41)], [], []⟩ ?_
              refine Vc [] [] (lBack_R r41) (W_ret ?_)
              exact ⟨.inl rfl, by cases h; rfl⟩
             ·refine W_seq ?_
              refine Vr hT [0, 1, 2] ⟨[(4, kH 0), (11, kB r41), (35, kP 1 0), (199, kB ((r169.2.2).isNone))], [], [ob 5 l4, ⟨.blk, 45, 1, 2, .c [.wh 2, .s (.k .i64 r169.2.1)]⟩, nb 5 r169.1]⟩ ?_
              refine Vi ((r169.2.2).isNone) (fun g33 => ?_) (fun g33 => ?_)
              ·replace h := bif_t h g33
               obtain ⟨r202, g30, h⟩ := bind_some' h
               refine Vgs hT (fT 1 (pBits_ok n r202) fN) [] [] [0, 3] ⟨[(4, kH 0), (11, kB r41), (39, kH 1), (40, kE 31 r202.2)], [], [ob 5 l4, nb 5 r202.1]⟩ (aP g30 aN) ?_
               refine W_seq ?_
               rcases Bool.eq_false_or_eq_true (!((r202.2).isNone)) with g31 | g31
               ·replace h := bif_t h g31
                refine Vg hT fN [(2, true)] [] [] ⟨[(11, kB r41), (213, kB true)], [], []⟩ (aP g31 aN) ?_
                refine Vi (true) (fun _ => ?_) (fun hb => by cases hb)
                refine Vrs hT [] ⟨[(10, kB false)], [], []⟩ ?_
                refine Vc [] [] (lBack_R false) (W_ret ?_)
                exact ⟨.inl rfl, by cases h; rfl⟩
               ·replace h := bif_f h g31
                refine Vg hT fN [(2, false)] [] [] ⟨[(11, kB r41), (213, kB (r202.1 != l4))], [], []⟩ (aP g31 aN) ?_
                refine Vi ((r202.1 != l4)) (fun g32 => ?_) (fun g32 => ?_)
                ·replace h := bif_t h g32
                 refine Vrs hT [] ⟨[(10, kB false)], [], []⟩ ?_
                 refine Vc [] [] (lBack_R false) (W_ret ?_)
                 exact ⟨.inl rfl, by cases h; rfl⟩
                ·replace h := bif_f h g32
                 refine Vc [] [] (lBack_j6_E r41) (W_skip ?_)
                 exact ⟨rfl, h⟩
              ·replace h := bif_f h g33
               refine Vc [] [] (lBack_j6_E r41) (W_skip ?_)
               exact ⟨rfl, h⟩
            ·refine W_seq ?_
             refine Vr hT [0, 1, 2, 3] ⟨[(4, kH 0), (11, kB r41), (33, kH 1), (35, kP 2 0), (36, kE 31 r169.2.2), (183, kB ((r164.2).isNone))], [], [ob 5 l4, nw 89 r164.1, ⟨.blk, 45, 1, 2, .c [.wh 3, .s (.k .i64 r169.2.1)]⟩, nb 5 r169.1]⟩ ?_
             refine Vi ((r164.2).isNone) (fun g37 => ?_) (fun g37 => ?_)
             ·replace h := bif_t h g37
              obtain ⟨r186, g34, h⟩ := bind_some' h
              refine Vgs hT (fT 1 (pOid_ok n r186) fN) [] [] [0, 2, 3, 4] ⟨[(4, kH 0), (11, kB r41), (35, kP 1 0), (36, kE 31 r169.2.2), (37, kH 3), (38, kE 31 r186.2)], [], [ob 5 l4, ⟨.blk, 45, 1, 2, .c [.wh 2, .s (.k .i64 r169.2.1)]⟩, nb 5 r169.1, nb 5 r186.1]⟩ (aP g34 aN) ?_
              refine W_seq ?_
              rcases Bool.eq_false_or_eq_true (!((r186.2).isNone)) with g35 | g35
              ·replace h := bif_t h g35
               refine Vg hT fN [(2, true)] [] [0, 1, 2] ⟨[(4, kH 0), (11, kB r41), (35, kP 1 0), (36, kE 31 r169.2.2), (197, kB true)], [], [ob 5 l4, ⟨.blk, 45, 1, 2, .c [.wh 2, .s (.k .i64 r169.2.1)]⟩, nb 5 r169.1]⟩ (aP g35 aN) ?_
               refine Vi (true) (fun _ => ?_) (fun hb => by cases hb)
               refine Vrs hT [] ⟨[(10, kB false)], [], []⟩ ?_
               refine Vc [] [] (lBack_R false) (W_ret ?_)
               exact ⟨.inl rfl, by cases h; rfl⟩
              ·replace h := bif_f h g35
               refine Vg hT fN [(2, false)] [] [0, 1, 2] ⟨[(4, kH 0), (11, kB r41), (35, kP 1 0), (36, kE 31 r169.2.2), (197, kB (r186.1 != l4))], [], [ob 5 l4, ⟨.blk, 45, 1, 2, .c [.wh 2, .s (.k .i64 r169.2.1)]⟩, nb 5 r169.1]⟩ (aP g35 aN) ?_
               refine Vi ((r186.1 != l4)) (fun g36 => ?_) (fun g36 => ?_)
               ·replace h := bif_t h g36
                refine Vrs hT [] ⟨[(10, kB false)], [], []⟩ ?_
                refine Vc [] [] (lBack_R false) (W_ret ?_)
                exact ⟨.inl rfl, by cases h; rfl⟩
               ·replace h := bif_f h g36
                refine Vc [] [0, 1, 2] (lBack_j5_E l4 r41 r169) (W_skip ?_)
                exact ⟨rfl, h⟩
             ·replace h := bif_f h g37
              refine Vc [] [0, 2, 3] (lBack_j5_E l4 r41 r169) (W_skip ?_)
              exact ⟨rfl, h⟩
          ·refine W_seq ?_
           refine Vr hT [0, 1, 2] ⟨[(4, kH 0), (8, kP 1 0), (11, kB r41), (22, kU r115.1), (23, kH 2), (120, kB ((r115.2.2).isNone))], [], [ob 5 l4, ⟨.blk, 34, 1, 6, .c [.s (.k .i64 l3_0), .s (.k .i64 l3_1), .s (.k .i64 l3_2), .s (.k .i64 l3_3), .s (.k .i64 l3_4), .s (.k .i64 l3_5)]⟩, nb 5 r115.2.1]⟩ ?_
           refine Vi ((r115.2.2).isNone) (fun g46 => ?_) (fun g46 => ?_)
           ·replace h := bif_t h g46
            obtain ⟨r124, g38, h⟩ := bind_some' h
            refine Vgs hT (fT 2 (pReadTime_ok n r124) fN) [] [] [0, 1, 3] ⟨[(4, kH 0), (8, kP 1 0), (11, kB r41), (25, kP 2 0), (26, kE 31 r124.2.2.2.2.2.2)], [], [ob 5 l4, ⟨.blk, 34, 1, 6, .c [.s (.k .i64 l3_0), .s (.k .i64 l3_1), .s (.k .i64 l3_2), .s (.k .i64 l3_3), .s (.k .i64 l3_4), .s (.k .i64 l3_5)]⟩, ⟨.blk, 34, 1, 6, .c [.s (.k .i64 r124.1), .s (.k .i64 r124.2.1), .s (.k .i64 r124.2.2.1), .s (.k .i64 r124.2.2.2.1), .s (.k .i64 r124.2.2.2.2.1), .s (.k .i64 r124.2.2.2.2.2.1)]⟩]⟩ (aP g38 aN) ?_
            obtain ⟨r129, g39, h⟩ := bind_some' h
            refine Vgs hT (fT 1 (pCount_ok n r129) fN) [] [] [0, 1, 2] ⟨[(4, kH 0), (8, kP 1 0), (11, kB r41), (25, kP 2 0), (26, kE 31 r124.2.2.2.2.2.2), (27, kI r129.1), (28, kE 31 r129.2)], [], [ob 5 l4, ⟨.blk, 34, 1, 6, .c [.s (.k .i64 l3_0), .s (.k .i64 l3_1), .s (.k .i64 l3_2), .s (.k .i64 l3_3), .s (.k .i64 l3_4), .s (.k .i64 l3_5)]⟩, ⟨.blk, 34, 1, 6, .c [.s (.k .i64 r124.1), .s (.k .i64 r124.2.1), .s (.k .i64 r124.2.2.1), .s (.k .i64 r124.2.2.2.1), .s (.k .i64 r124.2.2.2.2.1), .s (.k .i64 r124.2.2.2.2.2.1)]⟩]⟩ (aP g39 aN) ?_
            obtain ⟨r134, g40, h⟩ := bind_some' h
            refine Vgs hT (fT 1 (pAt_ok n r134) fN) [] [] [0, 1, 2, 3] ⟨[(4, kH 0), (8, kP 1 0), (11, kB r41), (25, kP 2 0), (26, kE 31 r124.2.2.2.2.2.2), (28, kE 31 r129.2), (29, kP 3 0), (30, kE 31 r134.2.2.2.2.2.2)], [], [ob 5 l4, ⟨.blk, 34, 1, 6, .c [.s (.k .i64 l3_0), .s (.k .i64 l3_1), .s (.k .i64 l3_2), .s (.k .i64 l3_3), .s (.k .i64 l3_4), .s (.k .i64 l3_5)]⟩, ⟨.blk, 34, 1, 6, .c [.s (.k .i64 r124.1), .s (.k .i64 r124.2.1), .s (.k .i64 r124.2.2.1), .s (.k .i64 r124.2.2.2.1), .s (.k .i64 r124.2.2.2.2.1), .s (.k .i64 r124.2.2.2.2.2.1)]⟩, ⟨.blk, 34, 1, 6, .c [.s (.k .i64 r134.1), .s (.k .i64 r134.2.1), .s (.k .i64 r134.2.2.1), .s (.k .i64 r134.2.2.2.1), .s (.k .i64 r134.2.2.2.2.1), .s (.k .i64 r134.2.2.2.2.2.1)]⟩]⟩ (aP g40 aN) ?_
            refine W_seq ?_
            rcases Bool.eq_false_or_eq_true (!((r124.2.2.2.2.2.2).isNone)) with g41 | g41
            ·replace h := bif_t h g41
             refine Vg hT fN [(2, true)] [] [0] ⟨[(4, kH 0), (11, kB r41), (156, kB true)], [], [ob 5 l4]⟩ (aP g41 aN) ?_
             refine Vi (true) (fun _ => ?_) (fun hb => by cases hb)
             refine Vrs hT [] ⟨[(10, kB false)], [], []⟩ ?_
             refine Vc [] [] (lBack_R false) (W_ret ?_)
             exact ⟨.inl rfl, by cases h; rfl⟩
            ·replace h := bif_f h g41
             rcases Bool.eq_false_or_eq_true (!((r124.1 == l3_0) && ((r124.2.1 == l3_1) && ((r124.2.2.1 == l3_2) && ((r124.2.2.2.1 == l3_3) && ((r124.2.2.2.2.1 == l3_4) && ((r124.2.2.2.2.2.1 == l3_5) && true))))))) with g42 | g42
             ·replace h := bif_t h g42
              refine Vg hT fN [(2, false), (7, true)] [] [0] ⟨[(4, kH 0), (11, kB r41), (156, kB true)], [], [ob 5 l4]⟩ (aP g41 (aP g42 aN)) ?_
              refine Vi (true) (fun _ => ?_) (fun hb => by cases hb)
              refine Vrs hT [] ⟨[(10, kB false)], [], []⟩ ?_
              refine Vc [] [] (lBack_R false) (W_ret ?_)
              exact ⟨.inl rfl, by cases h; rfl⟩
             ·replace h := bif_f h g42
              rcases Bool.eq_false_or_eq_true (!((r129.2).isNone)) with g43 | g43
              ·replace h := bif_t h g43
               refine Vg hT fN [(2, false), (7, false), (11, true)] [] [0] ⟨[(4, kH 0), (11, kB r41), (156, kB true)], [], [ob 5 l4]⟩ (aP g41 (aP g42 (aP g43 aN))) ?_
               refine Vi (true) (fun _ => ?_) (fun hb => by cases hb)
               refine Vrs hT [] ⟨[(10, kB false)], [], []⟩ ?_
               refine Vc [] [] (lBack_R false) (W_ret ?_)
               exact ⟨.inl rfl, by cases h; rfl⟩
              ·replace h := bif_f h g43
               rcases Bool.eq_false_or_eq_true (!((r134.2.2.2.2.2.2).isNone)) with g44 | g44
               ·replace h := bif_t h g44
                refine Vg hT fN [(2, false), (7, false), (11, false), (15, true)] [] [0] ⟨[(4, kH 0), (11, kB r41), (156, kB true)], [], [ob 5 l4]⟩ (aP g41 (aP g42 (aP g43 (aP g44 aN)))) ?_
                refine Vi (true) (fun _ => ?_) (fun hb => by cases hb)
                refine Vrs hT [] ⟨[(10, kB false)], [], []⟩ ?_
                refine Vc [] [] (lBack_R false) (W_ret ?_)
                exact ⟨.inl rfl, by cases h; rfl⟩
               ·replace h := bif_f h g44
                refine Vg hT fN [(2, false), (7, false), (11, false), (15, false)] [] [0] ⟨[(4, kH 0), (11, kB r41), (156, kB (!((r134.1 == l3_0) && ((r134.2.1 == l3_1) && ((r134.2.2.1 == l3_2) && ((r134.2.2.2.1 == l3_3) && ((r134.2.2.2.2.1 == l3_4) && ((r134.2.2.2.2.2.1 == l3_5) && true))))))))], [], [ob 5 l4]⟩ (aP g41 (aP g42 (aP g43 (aP g44 aN)))) ?_
                refine Vi ((!((r134.1 == l3_0) && ((r134.2.1 == l3_1) && ((r134.2.2.1 == l3_2) && ((r134.2.2.2.1 == l3_3) && ((r134.2.2.2.2.1 == l3_4) && ((r134.2.2.2.2.2.1 == l3_5) && true)))))))) (fun g45 => ?_) (fun g45 => ?_)
                ·replace h := bif_t h g45
                 refine Vrs hT [] ⟨[(10, kB false)], [], []⟩ ?_
                 refine Vc [] [] (lBack_R false) (W_ret ?_)
                 exact ⟨.inl rfl, by cases h; rfl⟩
                ·replace h := bif_f h g45
                 refine Vc [] [0] (lBack_j2_E l4 r41) (W_skip ?_)
                 exact ⟨rfl, h⟩
           ·replace h := bif_f h g46
            refine Vc [] [0] (lBack_j2_E l4 r41) (W_skip ?_)
            exact ⟨rfl, h⟩
         ·refine W_seq ?_
          refine Vr hT [0, 1, 2, 3] ⟨[(2, kH 0), (4, kH 1), (8, kP 2 0), (11, kB r41), (18, kH 3), (99, kB ((r95.2).isNone))], [], [ow 89 l2, ob 5 l4, ⟨.blk, 34, 1, 6, .c [.s (.k .i64 l3_0), .s (.k .i64 l3_1), .s (.k .i64 l3_2), .s (.k .i64 l3_3), .s (.k .i64 l3_4), .s (.k .i64 l3_5)]⟩, nb 5 r95.1]⟩ ?_
          refine Vi ((r95.2).isNone) (fun g51 => ?_) (fun g51 => ?_)
          ·replace h := bif_t h g51
           obtain ⟨r102, g47, h⟩ := bind_some' h
           refine Vgs hT (fT 1 (pReadOid_ok n r102) fN) [] [] [0, 1, 2, 4] ⟨[(2, kH 0), (4, kH 1), (8, kP 2 0), (11, kB r41), (20, kH 3), (21, kE 31 r102.2)], [], [ow 89 l2, ob 5 l4, ⟨.blk, 34, 1, 6, .c [.s (.k .i64 l3_0), .s (.k .i64 l3_1), .s (.k .i64 l3_2), .s (.k .i64 l3_3), .s (.k .i64 l3_4), .s (.k .i64 l3_5)]⟩, nw 89 r102.1]⟩ (aP g47 aN) ?_
           refine W_seq ?_
           rcases Bool.eq_false_or_eq_true (!((r102.2).isNone)) with g48 | g48
           ·replace h := bif_t h g48
            refine Vg hT fN [(2, true)] [] [1, 2] ⟨[(4, kH 0), (8, kP 1 0), (11, kB r41), (112, kB true)], [], [ob 5 l4, ⟨.blk, 34, 1, 6, .c [.s (.k .i64 l3_0), .s (.k .i64 l3_1), .s (.k .i64 l3_2), .s (.k .i64 l3_3), .s (.k .i64 l3_4), .s (.k .i64 l3_5)]⟩]⟩ (aP g48 aN) ?_
            refine Vi (true) (fun _ => ?_) (fun hb => by cases hb)
            refine Vrs hT [] ⟨[(10, kB false)], [], []⟩ ?_
            refine Vc [] [] (lBack_R false) (W_ret ?_)
            exact ⟨.inl rfl, by cases h; rfl⟩
           ·replace h := bif_f h g48
            obtain ⟨r110, g49, h⟩ := bind_some' h
            refine Vg hT (fT 5 (lsame_ok n r110) fN) [(2, false)] [] [1, 2] ⟨[(4, kH 0), (8, kP 1 0), (11, kB r41), (112, kB (!r110))], [], [ob 5 l4, ⟨.blk, 34, 1, 6, .c [.s (.k .i64 l3_0), .s (.k .i64 l3_1), .s (.k .i64 l3_2), .s (.k .i64 l3_3), .s (.k .i64 l3_4), .s (.k .i64 l3_5)]⟩]⟩ (aP g48 (aP g49 aN)) ?_
            refine Vi ((!r110)) (fun g50 => ?_) (fun g50 => ?_)
            ·replace h := bif_t h g50
             refine Vrs hT [] ⟨[(10, kB false)], [], []⟩ ?_
             refine Vc [] [] (lBack_R false) (W_ret ?_)
             exact ⟨.inl rfl, by cases h; rfl⟩
            ·replace h := bif_f h g50
             refine Vc [] [0, 1] (lBack_j1_E l3_0 l3_1 l3_2 l3_3 l3_4 l3_5 l4 r41) (W_skip ?_)
             exact ⟨rfl, h⟩
          ·replace h := bif_f h g51
           refine Vc [] [1, 2] (lBack_j1_E l3_0 l3_1 l3_2 l3_3 l3_4 l3_5 l4 r41) (W_skip ?_)
           exact ⟨rfl, h⟩
end Go.Proofs.Ytliilihbnhdemaa
end
section
namespace Go.Sx
open Go Go.RowKit Go.Ch Go.Proofs.Ytliilihbnhdemaa
def leapZ (y : Int) : Bool := y % 4 == 0 && (y % 100 != 0 || y % 400 == 0)
def daysZ (y m : Int) : Int := if m = 4 ∨ m = 6 ∨ m = 9 ∨ m = 11 then 30 else if m = 2 then (if leapZ y then 29 else 28) else 31
def okZ (y m d h i s : Int) : Prop := 1 ≤ y ∧ y ≤ 9999 ∧ 1 ≤ m ∧ m ≤ 12 ∧ 1 ≤ d ∧ d ≤ daysZ y m ∧ 0 ≤ h ∧ h ≤ 23 ∧ 0 ≤ i ∧ i ≤ 59 ∧ 0 ≤ s ∧ s ≤ 59
instance (y m d h i s : Int) : Decidable (okZ y m d h i s) := by unfold okZ; infer_instance
def aheadZ (y : Int) : Int := 365 * (y - 1) + (y - 1) / 4 - (y - 1) / 100 + (y - 1) / 400
def msum (y : Int) : Nat → Int
 | 0 => 0
 | m + 1 => msum y m + daysZ y ((m : Int) + 1)
def countZ (y m d h i s : Int) : Int := (aheadZ y + (d - 1) + msum y (m - 1).toNat) * 86400 + (h * 3600 + i * 60 + s)
theorem daysZ_b (y m : Int) : 28 ≤ daysZ y m ∧ daysZ y m ≤ 31 := by unfold daysZ; split <;> (try split) <;> (try split) <;> omega
theorem ahead_succ {y : Int} (h : 1 ≤ y) : aheadZ (y + 1) = aheadZ y + 365 + (if leapZ y then 1 else 0) := by
 unfold aheadZ leapZ
 have e : (y % 4 == 0 && (y % 100 != 0 || y % 400 == 0)) = decide (y % 4 = 0 ∧ (y % 100 ≠ 0 ∨ y % 400 = 0)) := by
  rw [Bool.eq_iff_iff]; simp
 rw [e]
 by_cases h1 : y % 4 = 0 ∧ (y % 100 ≠ 0 ∨ y % 400 = 0)
 ·rw [decide_eq_true h1, if_pos rfl]; omega
 ·rw [decide_eq_false h1, if_neg (by decide)]; omega
theorem msum_13 (y : Int) : msum y 12 = 365 + (if leapZ y then 1 else 0) := by
 simp only [msum, daysZ]
 cases leapZ y <;> simp
theorem msum_b (y : Int) : ∀ m : Nat, 0 ≤ msum y m ∧ msum y m ≤ 31 * m := by
 intro m
 induction m with
 | zero => simp [msum]
 | succ m ih =>
  have := daysZ_b y ((m : Int) + 1)
  simp only [msum]; omega
theorem ahead_b {y : Int} (h1 : 1 ≤ y) (h2 : y ≤ 10000) : 0 ≤ aheadZ y ∧ aheadZ y ≤ 3652059 := by unfold aheadZ; omega
theorem ahead_mono {x y : Int} (h0 : 1 ≤ x) (h : x ≤ y) : aheadZ x + 365 * (y - x) ≤ aheadZ y := by
 obtain ⟨k, rfl⟩ : ∃ k : Nat, y = x + k := ⟨(y - x).toNat, by omega⟩
 clear h
 induction k with
 | zero => simp
 | succ k ih =>
  have := ahead_succ (y := x + k) (by omega)
  rw [show x + ((k + 1 : Nat) : Int) = x + k + 1 by omega, this]
  split <;> omega
theorem leap_is (n : Nat) {y : Int} (h : 0 ≤ y) : pleap n y = some (leapZ y) := by
 unfold pleap leapZ
 rw [Int.tmod_eq_emod_of_nonneg h, Int.tmod_eq_emod_of_nonneg h, Int.tmod_eq_emod_of_nonneg h, gd_pos (by decide), gd_pos (by decide), gd_pos (by decide)]
 cases (y % 4 == 0) <;> cases (y % 100 != 0) <;> rfl
theorem days_is (n : Nat) {y m : Int} (h : 0 ≤ y) : pdays n y m = some (daysZ y m) := by
 unfold pdays pdays_j1 daysZ
 rw [leap_is n h]
 by_cases h4 : m = 4
 ·subst h4; rfl
 ·by_cases h6 : m = 6
  ·subst h6; rfl
  ·by_cases h9 : m = 9
   ·subst h9; rfl
   ·by_cases h11 : m = 11
    ·subst h11; rfl
    ·by_cases h2 : m = 2
     ·subst h2; cases leapZ y <;> rfl
     ·rw [beq_eq_false_iff_ne.2 h4, beq_eq_false_iff_ne.2 h6, beq_eq_false_iff_ne.2 h9, beq_eq_false_iff_ne.2 h11, beq_eq_false_iff_ne.2 h2]; simp [h4, h6, h9, h11, h2]
theorem valid_is (n : Nat) (y m d h i s : Int) : pvalid n y m d h i s = some (decide (okZ y m d h i s)) := by
 unfold pvalid
 by_cases h1 : 1 ≤ y
 ·rw [ite_f (by simp; omega)]
  by_cases h2 : y ≤ 9999
  ·rw [ite_f (by simp; omega)]
   by_cases h3 : 1 ≤ m
   ·rw [ite_f (by simp; omega)]
    by_cases h4 : m ≤ 12
    ·rw [ite_f (by simp; omega)]
     by_cases h5 : 1 ≤ d
     ·rw [ite_f (by simp; omega), days_is n (by omega), Option.bind_some]
      by_cases h6 : d ≤ daysZ y m
      ·rw [ite_f (by simp; omega)]
       by_cases h7 : 0 ≤ h <;> by_cases h8 : h ≤ 23 <;> by_cases h9 : 0 ≤ i <;> by_cases h10 : i ≤ 59 <;> by_cases h11 : 0 ≤ s <;> by_cases h12 : s ≤ 59 <;> simp [okZ, h1, h2, h3, h4, h5, h6, h7, h8, h9, h10, h11, h12]
      ·rw [ite_t (by simp; omega), decide_eq_false (fun hh => h6 hh.2.2.2.2.2.1)]
     ·rw [ite_t (by simp; omega), decide_eq_false (fun hh => h5 hh.2.2.2.2.1)]
    ·rw [ite_t (by simp; omega), decide_eq_false (fun hh => h4 hh.2.2.2.1)]
   ·rw [ite_t (by simp; omega), decide_eq_false (fun hh => h3 hh.2.2.1)]
  ·rw [ite_t (by simp; omega), decide_eq_false (fun hh => h2 hh.2.1)]
 ·rw [ite_t (by simp; omega), decide_eq_false (fun hh => h1 hh.1)]
theorem ahead_is (n : Nat) {y : Int} (h1 : 1 ≤ y) (h2 : y ≤ 10001) : pahead n y = some (aheadZ y) := by
 unfold pahead aheadZ
 rw [Int.tdiv_eq_ediv_of_nonneg (show 0 ≤ y - 1 by omega), Int.tdiv_eq_ediv_of_nonneg (show 0 ≤ y - 1 by omega), Int.tdiv_eq_ediv_of_nonneg (show 0 ≤ y - 1 by omega)]
 rw [gd_pos (okI64 (by omega) (by omega)), gd_pos (okI64 (by omega) (by omega)), gd_pos (by decide), gd_pos (okI64 (by omega) (by omega)), gd_pos (okI64 (by omega) (by omega)), gd_pos (by decide), gd_pos (okI64 (by omega) (by omega)), gd_pos (okI64 (by omega) (by omega)), gd_pos (by decide), gd_pos (okI64 (by omega) (by omega)), gd_pos (okI64 (by omega) (by omega))]
theorem count_b {y m d h i s : Int} (hv : okZ y m d h i s) : 0 ≤ aheadZ y + (d - 1) + msum y (m - 1).toNat ∧ aheadZ y + (d - 1) + msum y (m - 1).toNat ≤ 4000000 := by
 obtain ⟨h1, h2, h3, h4, h5, h6, h7, h8, h9, h10, h11, h12⟩ := hv
 have := ahead_b h1 (by omega)
 have := msum_b y (m - 1).toNat
 have := daysZ_b y m
 omega
theorem pCount_l1_is (n : Nat) {y m d h i s : Int} (hv : okZ y m d h i s) : ∀ (k j fu : Nat), j + k = (m - 1).toNat → k < fu →
  pCount_l1 n y m d h i s fu (aheadZ y + (d - 1) + msum y j) ((j : Int) + 1) = some (countZ y m d h i s, none) := by
 have hb := count_b hv
 obtain ⟨h1, h2, h3, h4, h5, h6, h7, h8, h9, h10, h11, h12⟩ := hv
 have ha := ahead_b h1 (by omega)
 have hd := daysZ_b y m
 intro k
 induction k with
 | zero =>
  intro j fu hj hf
  cases fu with
  | zero => omega
  | succ fu =>
   obtain rfl : j = (m - 1).toNat := by omega
   rw [pCount_l1, ite_f (by simp; omega), gd_pos (okI64 (by omega) (by omega)), gd_pos (okI64 (by omega) (by omega)), gd_pos (okI64 (by omega) (by omega)), gd_pos (okI64 (by omega) (by omega)), gd_pos (okI64 (by omega) (by omega)), gd_pos (okI64 (by omega) (by omega))]
   rfl
 | succ k ih =>
  intro j fu hj hf
  cases fu with
  | zero => omega
  | succ fu =>
   have hm := msum_b y j
   have hdd := daysZ_b y ((j : Int) + 1)
   rw [pCount_l1, ite_t (by simp; omega), days_is n (by omega), Option.bind_some, gd_pos (okI64 (by omega) (by omega)), gd_pos (okI64 (by omega) (by omega))]
   have := ih (j + 1) fu (by omega) (by omega)
   simp only [msum] at this
   rw [show aheadZ y + (d - 1) + msum y j + daysZ y ((j : Int) + 1) = aheadZ y + (d - 1) + (msum y j + daysZ y ((j : Int) + 1)) by omega, show (j : Int) + 1 + 1 = ((j + 1 : Nat) : Int) + 1 by omega]
   exact this
theorem pCount_is {n : Nat} (hn : 100 ≤ n) (y m d h i s : Int) : pCount n y m d h i s = some (if okZ y m d h i s then (countZ y m d h i s, none) else (0, some 1)) := by
 unfold pCount
 rw [valid_is, Option.bind_some]
 by_cases hv : okZ y m d h i s
 ·have ha := ahead_b hv.1 (by have := hv.2.1; omega)
  have hb := daysZ_b y m
  have hd := hv.2.2.2.2
  rw [if_pos hv, ite_f (by simp [hv]), ahead_is n hv.1 (by have := hv.2.1; omega), Option.bind_some, gd_pos (okI64 (by omega) (by omega)), gd_pos (okI64 (by omega) (by omega))]
  have := pCount_l1_is n hv (m - 1).toNat 0 n (by omega) (by have := hv.2.2.2.1; omega)
  simp only [msum, Int.add_zero] at this
  exact this
 ·rw [if_neg hv, ite_t (by simp [hv])]
theorem msum_mono (y : Int) {a b : Nat} (h : a ≤ b) : msum y a ≤ msum y b := by
 induction b with
 | zero =>
  obtain rfl : a = 0 := by omega
  exact Int.le_refl _
 | succ b ih =>
  by_cases hab : a = b + 1
  ·subst hab; exact Int.le_refl _
  ·have := ih (by omega)
   have := daysZ_b y ((b : Int) + 1)
   simp only [msum]; omega
theorem day_lt {y m d h i s : Int} (hv : okZ y m d h i s) : d - 1 + msum y (m - 1).toNat < msum y m.toNat := by
 obtain ⟨h1, h2, h3, h4, h5, h6, _⟩ := hv
 obtain ⟨k, rfl⟩ : ∃ k : Nat, m = (k : Int) + 1 := ⟨(m - 1).toNat, by omega⟩
 have e1 : ((k : Int) + 1 - 1).toNat = k := by omega
 have e2 : ((k : Int) + 1).toNat = k + 1 := by omega
 rw [e1, e2]
 simp only [msum]; omega
def lexZ (y m d h i s y' m' d' h' i' s' : Int) : Prop := y < y' ∨ (y = y' ∧ (m < m' ∨ (m = m' ∧ (d < d' ∨ (d = d' ∧ (h < h' ∨ (h = h' ∧ (i < i' ∨ (i = i' ∧ s < s')))))))))
theorem lex_count {y m d h i s y' m' d' h' i' s' : Int} (hv : okZ y m d h i s) (hv' : okZ y' m' d' h' i' s') (hl : lexZ y m d h i s y' m' d' h' i' s') : countZ y m d h i s < countZ y' m' d' h' i' s' := by
 have hd := day_lt hv
 have hb' := msum_b y' (m' - 1).toNat
 unfold countZ
 obtain ⟨h1, h2, h3, h4, h5, h6, h7, h8, h9, h10, h11, h12⟩ := hv
 obtain ⟨g1, g2, g3, g4, g5, g6, g7, g8, g9, g10, g11, g12⟩ := hv'
 rcases hl with hl | ⟨rfl, hl⟩
 ·have h13 := msum_mono y (show m.toNat ≤ 12 by omega)
  rw [msum_13] at h13
  have hs := ahead_succ h1
  have hm := ahead_mono (x := y + 1) (y := y') (by omega) (by omega)
  omega
 ·rcases hl with hl | ⟨rfl, hl⟩
  ·have := msum_mono y (show m.toNat ≤ (m' - 1).toNat by omega)
   omega
  ·rcases hl with hl | ⟨rfl, hl⟩
   ·omega
   ·rcases hl with hl | ⟨rfl, hl⟩
    ·omega
    ·rcases hl with hl | ⟨rfl, hl⟩ <;> omega
theorem lex_tri (y m d h i s y' m' d' h' i' s' : Int) : lexZ y m d h i s y' m' d' h' i' s' ∨ lexZ y' m' d' h' i' s' y m d h i s ∨ (y = y' ∧ m = m' ∧ d = d' ∧ h = h' ∧ i = i' ∧ s = s') := by
 unfold lexZ; omega
def two2 (l : List Int) : List UInt8 := l.flatMap fun x => [UInt8.ofInt (48 + x / 10), UInt8.ofInt (48 + x % 10)]
def In100 (l : List Int) : Prop := ∀ x ∈ l, 0 ≤ x ∧ x ≤ 99
theorem ofIntB (t : Int) : (UInt8.ofInt t).toNat = (t % 256).toNat := by
 simp [UInt8.ofInt]; omega
theorem pTime_l1_is (n : Nat) (b : UInt8) (l : List Int) (hl : l.length ≤ 100) (h100 : In100 l) : ∀ (m j fu : Nat) (o : List UInt8), j + m = l.length → m < fu → o.length ≤ 2 * j → pTime_l1 n b l l.length fu o (j : Int) = some (b, (o ++ two2 (l.drop j)) ++ [90], none) := by
 intro m
 induction m with
 | zero =>
  intro j fu o hj hf ho
  cases fu with
  | zero => omega
  | succ fu =>
   rw [pTime_l1, ite_f (by simp <;> omega), gd_pos (by unfold rmB; omega), List.drop_of_length_le (by omega)]
   simp [two2]
 | succ m ih =>
  intro j fu o hj hf ho
  cases fu with
  | zero => omega
  | succ fu =>
   have hx : 0 ≤ l.getD j 0 ∧ l.getD j 0 ≤ 99 := by
    rw [List.getD_eq_getElem?_getD, List.getElem?_eq_getElem (show j < l.length by omega)]
    exact h100 _ (List.getElem_mem _)
   have e : l.drop j = l.getD j 0 :: l.drop (j + 1) := by
    rw [List.drop_eq_getElem_cons (show j < l.length by omega), List.getD_eq_getElem?_getD, List.getElem?_eq_getElem (show j < l.length by omega)]; rfl
   have e2 : two2 (l.drop j) = [UInt8.ofInt (48 + l.getD j 0 / 10), UInt8.ofInt (48 + l.getD j 0 % 10)] ++ two2 (l.drop (j + 1)) := by rw [e]; rfl
   rw [pTime_l1, ite_t (by simp <;> omega), Int.toNat_natCast, Int.tdiv_eq_ediv_of_nonneg hx.1, Int.tmod_eq_emod_of_nonneg hx.1, gd_pos (by omega), gd_pos (by omega), gd_pos (by decide), gd_pos (okI64 (by omega) (by omega)), gd_pos (okI64 (by omega) (by omega)), gd_pos (by decide), gd_pos (okI64 (by omega) (by omega)), gd_pos (by unfold rmB; omega), gd_pos (okI64 (by omega) (by omega))]
   rw [e2, ← List.append_assoc]
   exact ih (j + 1) fu _ (by omega) (by omega) (by simp; omega)
def markZ (y : Int) : UInt8 := if 1950 ≤ y ∧ y < 2050 then 23 else 24
def numsZ (y m d h i s : Int) : List Int := if 1950 ≤ y ∧ y < 2050 then [y % 100, m, d, h, i, s] else [y / 100, y % 100, m, d, h, i, s]
theorem nums_100 {y m d h i s : Int} (hv : okZ y m d h i s) : In100 (numsZ y m d h i s) := by
 have hd := daysZ_b y m
 obtain ⟨h1, h2, h3, h4, h5, h6, h7, h8, h9, h10, h11, h12⟩ := hv
 unfold numsZ
 split <;> intro x hx <;> simp only [List.mem_cons, List.mem_nil_iff, or_false] at hx <;> omega
theorem pTime_is {n : Nat} (hn : 100 ≤ n) (y m d h i s : Int) : pTime n y m d h i s = some (if okZ y m d h i s then (markZ y, two2 (numsZ y m d h i s) ++ [90], none) else (0, [], some 1)) := by
 unfold pTime
 rw [valid_is, Option.bind_some]
 by_cases hv : okZ y m d h i s
 ·have h100 := nums_100 hv
  have hy := hv.1
  have hy2 := hv.2.1
  rw [if_pos hv, ite_f (by simp [hv]), Int.tdiv_eq_ediv_of_nonneg (by omega), Int.tmod_eq_emod_of_nonneg (by omega), gd_pos (by decide), gd_pos (okI64 (by omega) (by omega)), gd_pos (by decide)]
  unfold pTime_j1
  unfold markZ
  unfold numsZ at h100 ⊢
  by_cases h1 : 1950 ≤ y
  ·rw [ite_t (by simpa using h1)]
   by_cases h2 : y < 2050
   ·rw [ite_t (by simpa using h2), gd_pos (by omega), gd_pos (by omega), if_pos ⟨h1, h2⟩, if_pos ⟨h1, h2⟩]
    rw [if_pos ⟨h1, h2⟩] at h100
    exact pTime_l1_is n 23 [y % 100, m, d, h, i, s] (by simp) h100 6 0 n [] rfl (by omega) (by simp)
   ·rw [ite_f (by simpa using h2), if_neg (fun h => h2 h.2), if_neg (fun h => h2 h.2)]
    rw [if_neg (fun h => h2 h.2)] at h100
    exact pTime_l1_is n 24 [y / 100, y % 100, m, d, h, i, s] (by simp) h100 7 0 n [] rfl (by omega) (by simp)
  ·rw [ite_f (by simpa using h1), if_neg (fun h => h1 h.1), if_neg (fun h => h1 h.1)]
   rw [if_neg (fun h => h1 h.1)] at h100
   exact pTime_l1_is n 24 [y / 100, y % 100, m, d, h, i, s] (by simp) h100 7 0 n [] rfl (by omega) (by simp)
 ·rw [if_neg hv, ite_t (by simp [hv])]
def okd (x : UInt8) : Bool := !decide (x < 48) && !decide (57 < x)
theorem okd_iff (x : UInt8) : okd x = true ↔ 48 ≤ x.toNat ∧ x.toNat ≤ 57 := by
 unfold okd
 simp only [Bool.and_eq_true, Bool.not_eq_true', decide_eq_false_iff_not, UInt8.lt_iff_toNat_lt]
 have e1 : (48 : UInt8).toNat = 48 := rfl
 have e2 : (57 : UInt8).toNat = 57 := rfl
 rw [e1, e2]; omega
def vp (a : List UInt8) (k : Nat) : Int := (((a.getD (2 * k) 0 - 48).toNat : Nat) : Int) * 10 + (((a.getD (2 * k + 1) 0 - 48).toNat : Nat) : Int)
def okp (a : List UInt8) (k : Nat) : Bool := okd (a.getD (2 * k) 0) && okd (a.getD (2 * k + 1) 0)
def vs (a : List UInt8) : Nat → List Int
 | 0 => []
 | j + 1 => vs a j ++ [vp a j]
theorem vs_len (a : List UInt8) : ∀ j, (vs a j).length = j
 | 0 => rfl
 | j + 1 => by rw [vs, List.length_append, vs_len a j]; rfl
def allp (a : List UInt8) (j : Nat) : Nat → Bool
 | 0 => true
 | m + 1 => okp a j && allp a (j + 1) m
theorem okd_lo {x : UInt8} (h : x < 48) : okd x = false := by unfold okd; rw [decide_eq_true h]; rfl
theorem okd_hi {x : UInt8} (h : 57 < x) : okd x = false := by unfold okd; rw [decide_eq_true h, Bool.not_true, Bool.and_false]
theorem okd_in {x : UInt8} (h1 : ¬ x < 48) (h2 : ¬ 57 < x) : okd x = true := by unfold okd; rw [decide_eq_false h1, decide_eq_false h2]; rfl
theorem okp_1 {a : List UInt8} {k : Nat} (h : okd (a.getD (2 * k) 0) = false) : okp a k = false := by unfold okp; rw [h, Bool.false_and]
theorem okp_2 {a : List UInt8} {k : Nat} (h : okd (a.getD (2 * k + 1) 0) = false) : okp a k = false := by unfold okp; rw [h, Bool.and_false]
theorem okp_t {a : List UInt8} {k : Nat} (h1 : ¬ a.getD (2 * k) 0 < 48) (h2 : ¬ 57 < a.getD (2 * k) 0) (h3 : ¬ a.getD (2 * k + 1) 0 < 48) (h4 : ¬ 57 < a.getD (2 * k + 1) 0) : okp a k = true := by unfold okp; rw [okd_in h1 h2, okd_in h3 h4]; rfl
theorem sub48 {x : UInt8} (h : okd x = true) : (x - 48).toNat = x.toNat - 48 := by
 have := (okd_iff x).1 h
 rw [UInt8.toNat_sub_of_le _ _ (by rw [UInt8.le_iff_toNat_le]; exact this.1)]; rfl
theorem vp_b {a : List UInt8} {k : Nat} (h : okp a k = true) : 0 ≤ vp a k ∧ vp a k ≤ 99 := by
 unfold okp at h; simp only [Bool.and_eq_true] at h
 have h1 := (okd_iff _).1 h.1; have h2 := (okd_iff _).1 h.2
 unfold vp; rw [sub48 h.1, sub48 h.2]; omega
theorem vp_two {a : List UInt8} {k : Nat} (h : okp a k = true) : UInt8.ofInt (48 + vp a k / 10) = a.getD (2 * k) 0 ∧ UInt8.ofInt (48 + vp a k % 10) = a.getD (2 * k + 1) 0 := by
 have hb := vp_b h
 unfold okp at h; simp only [Bool.and_eq_true] at h
 have h1 := (okd_iff _).1 h.1; have h2 := (okd_iff _).1 h.2
 have e : vp a k = (((a.getD (2 * k) 0).toNat : Int) - 48) * 10 + (((a.getD (2 * k + 1) 0).toNat : Int) - 48) := by
  unfold vp; rw [sub48 h.1, sub48 h.2]; omega
 rw [← UInt8.toNat_inj, ← UInt8.toNat_inj, ofIntB, ofIntB, e]
 omega
theorem ok_two {x : Int} (h : 0 ≤ x ∧ x ≤ 99) : okd (UInt8.ofInt (48 + x / 10)) = true ∧ okd (UInt8.ofInt (48 + x % 10)) = true := by
 rw [okd_iff, okd_iff, ofIntB, ofIntB]; omega
def rd (a : List UInt8) (k : Nat) : Int := if okp a k then vp a k else -1
def okT (mk : UInt8) (y m d h i s : Int) : Prop := okZ y m d h i s ∧ markZ y = mk
instance (mk : UInt8) (y m d h i s : Int) : Decidable (okT mk y m d h i s) := by unfold okT; infer_instance
abbrev badT : Int × Int × Int × Int × Int × Int × Option Int := (0, 0, 0, 0, 0, 0, some 2)
theorem l2_is (n : Nat) (mk : UInt8) (a : List UInt8) (M : Nat) (ha : a.length = 2 * M + 1) : ∀ (m j fu : Nat), j + m = M → m < fu → M ≤ 100 → pReadTime_l2 n mk a ((2 * M + 1 : Nat) : Int) fu (vs a j) ((2 * j : Nat) : Int) =
  if allp a j m = true then (bif (mk == 23) then (gd (0 ≤ (0 : Int)) <| gd ((0 : Int) < (((vs a M).length : Nat) : Int)) <| bif (decide ((50 : Int) ≤ ((vs a M).getD 0 0))) then pReadTime_j5 n mk (vs a M) 19 else pReadTime_j5 n mk (vs a M) 20) else pReadTime_j4 n mk (vs a M)) else some badT := by
 intro m
 induction m with
 | zero =>
  intro j fu hj hf hM
  obtain rfl : j = M := by omega
  cases fu with
  | zero => omega
  | succ fu => rw [pReadTime_l2, gd_pos (okI64 (by omega) (by omega)), ite_f (decide_eq_false (by omega)), if_pos (show allp a j 0 = true from rfl)]
 | succ m ih =>
  intro j fu hj hf hM
  have hvl := vs_len a j
  have e1 : (((2 * j : Nat) : Int) + 1).toNat = 2 * j + 1 := by omega
  have hx := (a.getD (2 * j) 0 - 48).toNat_lt
  have hy := (a.getD (2 * j + 1) 0 - 48).toNat_lt
  cases fu with
  | zero => omega
  | succ fu =>
   rw [pReadTime_l2, gd_pos (okI64 (by omega) (by omega)), ite_t (decide_eq_true (by omega)), gd_pos (by omega), gd_pos (by omega), Int.toNat_natCast, e1]
   by_cases h1 : a.getD (2 * j) 0 < 48
   ·rw [ite_t (decide_eq_true h1), if_neg (by rw [allp, okp_1 (okd_lo h1), Bool.false_and]; exact Bool.false_ne_true)]
   ·rw [ite_f (decide_eq_false h1), gd_pos (by omega), gd_pos (by omega)]
    by_cases h2 : 57 < a.getD (2 * j) 0
    ·rw [ite_t (decide_eq_true h2), if_neg (by rw [allp, okp_1 (okd_hi h2), Bool.false_and]; exact Bool.false_ne_true)]
    ·rw [ite_f (decide_eq_false h2), gd_pos (okI64 (by omega) (by omega)), gd_pos (by omega), gd_pos (by omega)]
     by_cases h3 : a.getD (2 * j + 1) 0 < 48
     ·rw [ite_t (decide_eq_true h3), if_neg (by rw [allp, okp_2 (okd_lo h3), Bool.false_and]; exact Bool.false_ne_true)]
     ·rw [ite_f (decide_eq_false h3), gd_pos (okI64 (by omega) (by omega)), gd_pos (by omega), gd_pos (by omega)]
      by_cases h4 : 57 < a.getD (2 * j + 1) 0
      ·rw [ite_t (decide_eq_true h4), if_neg (by rw [allp, okp_2 (okd_hi h4), Bool.false_and]; exact Bool.false_ne_true)]
      ·have hok : okp a j = true := okp_t h1 h2 h3 h4
       rw [ite_f (decide_eq_false h4), gd_pos (by omega), gd_pos (by omega), gd_pos (okI64 (by omega) (by omega)), gd_pos (okI64 (by omega) (by omega)), gd_pos (by omega), gd_pos (by omega), gd_pos (okI64 (by omega) (by omega)), gd_pos (by unfold rmB; omega), gd_pos (okI64 (by omega) (by omega))]
       have := ih (j + 1) fu (by omega) (by omega) hM
       rw [show ((2 * (j + 1) : Nat) : Int) = ((2 * j : Nat) : Int) + 2 by omega] at this
       have e2 : allp a j (m + 1) = allp a (j + 1) m := by simp only [allp, hok, Bool.true_and]
       rw [e2]
       exact this
theorem l1_is (n : Nat) (mk : UInt8) (a : List UInt8) (M : Nat) (ha : a.length = 2 * M + 1) : ∀ (m j fu : Nat), j + m = M → m < fu → M ≤ 100 → pReadTime_l1 n mk a ((2 * M + 1 : Nat) : Int) fu (vs a j) ((2 * j : Nat) : Int) =
  if allp a j m = true then (bif (mk == 23) then (gd (0 ≤ (0 : Int)) <| gd ((0 : Int) < (((vs a M).length : Nat) : Int)) <| bif (decide ((50 : Int) ≤ ((vs a M).getD 0 0))) then pReadTime_j3 n mk (vs a M) 19 else pReadTime_j3 n mk (vs a M) 20) else pReadTime_j2 n mk (vs a M)) else some badT := by
 intro m
 induction m with
 | zero =>
  intro j fu hj hf hM
  obtain rfl : j = M := by omega
  cases fu with
  | zero => omega
  | succ fu => rw [pReadTime_l1, gd_pos (okI64 (by omega) (by omega)), ite_f (decide_eq_false (by omega)), if_pos (show allp a j 0 = true from rfl)]
 | succ m ih =>
  intro j fu hj hf hM
  have hvl := vs_len a j
  have e1 : (((2 * j : Nat) : Int) + 1).toNat = 2 * j + 1 := by omega
  have hx := (a.getD (2 * j) 0 - 48).toNat_lt
  have hy := (a.getD (2 * j + 1) 0 - 48).toNat_lt
  cases fu with
  | zero => omega
  | succ fu =>
   rw [pReadTime_l1, gd_pos (okI64 (by omega) (by omega)), ite_t (decide_eq_true (by omega)), gd_pos (by omega), gd_pos (by omega), Int.toNat_natCast, e1]
   by_cases h1 : a.getD (2 * j) 0 < 48
   ·rw [ite_t (decide_eq_true h1), if_neg (by rw [allp, okp_1 (okd_lo h1), Bool.false_and]; exact Bool.false_ne_true)]
   ·rw [ite_f (decide_eq_false h1), gd_pos (by omega), gd_pos (by omega)]
    by_cases h2 : 57 < a.getD (2 * j) 0
    ·rw [ite_t (decide_eq_true h2), if_neg (by rw [allp, okp_1 (okd_hi h2), Bool.false_and]; exact Bool.false_ne_true)]
    ·rw [ite_f (decide_eq_false h2), gd_pos (okI64 (by omega) (by omega)), gd_pos (by omega), gd_pos (by omega)]
     by_cases h3 : a.getD (2 * j + 1) 0 < 48
     ·rw [ite_t (decide_eq_true h3), if_neg (by rw [allp, okp_2 (okd_lo h3), Bool.false_and]; exact Bool.false_ne_true)]
     ·rw [ite_f (decide_eq_false h3), gd_pos (okI64 (by omega) (by omega)), gd_pos (by omega), gd_pos (by omega)]
      by_cases h4 : 57 < a.getD (2 * j + 1) 0
      ·rw [ite_t (decide_eq_true h4), if_neg (by rw [allp, okp_2 (okd_hi h4), Bool.false_and]; exact Bool.false_ne_true)]
      ·have hok : okp a j = true := okp_t h1 h2 h3 h4
       rw [ite_f (decide_eq_false h4), gd_pos (by omega), gd_pos (by omega), gd_pos (okI64 (by omega) (by omega)), gd_pos (okI64 (by omega) (by omega)), gd_pos (by omega), gd_pos (by omega), gd_pos (okI64 (by omega) (by omega)), gd_pos (by unfold rmB; omega), gd_pos (okI64 (by omega) (by omega))]
       have := ih (j + 1) fu (by omega) (by omega) hM
       rw [show ((2 * (j + 1) : Nat) : Int) = ((2 * j : Nat) : Int) + 2 by omega] at this
       have e2 : allp a j (m + 1) = allp a (j + 1) m := by simp only [allp, hok, Bool.true_and]
       rw [e2]
       exact this
theorem j4_is {n : Nat} (hn : 100 ≤ n) (mk : UInt8) (z : List Int) (z0 z1 z2 z3 z4 z5 z6 : Int) (hz : z = [z0, z1, z2, z3, z4, z5, z6]) (h0 : 0 ≤ z0 ∧ z0 ≤ 99) (h1 : 0 ≤ z1 ∧ z1 ≤ 99) (h2 : 0 ≤ z2 ∧ z2 ≤ 99) (h3 : 0 ≤ z3 ∧ z3 ≤ 99) (h4 : 0 ≤ z4 ∧ z4 ≤ 99) (h5 : 0 ≤ z5 ∧ z5 ≤ 99) :
  pReadTime_j4 n mk z = some (if okT mk (z0 * 100 + z1) z2 z3 z4 z5 z6 then (z0 * 100 + z1, z2, z3, z4, z5, z6, none) else badT) := by
 subst hz
 have hl : (([z0, z1, z2, z3, z4, z5, z6] : List Int).length : Int) = 7 := rfl
 unfold pReadTime_j4
 have g0 : ([z0, z1, z2, z3, z4, z5, z6] : List Int).getD 0 0 = z0 := rfl
 have g1 : ([z0, z1, z2, z3, z4, z5, z6] : List Int).getD 1 0 = z1 := rfl
 have g2 : ([z0, z1, z2, z3, z4, z5, z6] : List Int).getD 2 0 = z2 := rfl
 have g3 : ([z0, z1, z2, z3, z4, z5, z6] : List Int).getD 3 0 = z3 := rfl
 have g4 : ([z0, z1, z2, z3, z4, z5, z6] : List Int).getD 4 0 = z4 := rfl
 have g5 : ([z0, z1, z2, z3, z4, z5, z6] : List Int).getD 5 0 = z5 := rfl
 have g6 : ([z0, z1, z2, z3, z4, z5, z6] : List Int).getD 6 0 = z6 := rfl
 rw [g0, g1, g2, g3, g4, g5, g6, hl]
 rw [gd_pos (by omega), gd_pos (by omega), gd_pos (okI64 (by omega) (by omega)), gd_pos (by omega), gd_pos (by omega), gd_pos (okI64 (by omega) (by omega)), gd_pos (by omega), gd_pos (by omega), gd_pos (by omega), gd_pos (by omega), gd_pos (by omega), gd_pos (by omega), gd_pos (by omega), gd_pos (by omega), gd_pos (by omega), gd_pos (by omega), pTime_is hn, Option.bind_some]
 by_cases hv : okZ (z0 * 100 + z1) z2 z3 z4 z5 z6
 ·rw [if_pos hv, ite_f (by rfl)]
  by_cases hm : markZ (z0 * 100 + z1) = mk
  ·rw [ite_f (by simp [hm]), if_pos ⟨hv, hm⟩]
  ·rw [ite_t (by simpa using hm), if_neg (fun h => hm h.2)]
 ·rw [if_neg hv, ite_t (by rfl), if_neg (fun h => hv h.1)]
theorem j2_is {n : Nat} (hn : 100 ≤ n) (mk : UInt8) (z : List Int) (z0 z1 z2 z3 z4 z5 z6 : Int) (hz : z = [z0, z1, z2, z3, z4, z5, z6]) (h0 : 0 ≤ z0 ∧ z0 ≤ 99) (h1 : 0 ≤ z1 ∧ z1 ≤ 99) (h2 : 0 ≤ z2 ∧ z2 ≤ 99) (h3 : 0 ≤ z3 ∧ z3 ≤ 99) (h4 : 0 ≤ z4 ∧ z4 ≤ 99) (h5 : 0 ≤ z5 ∧ z5 ≤ 99) :
  pReadTime_j2 n mk z = some (if okT mk (z0 * 100 + z1) z2 z3 z4 z5 z6 then (z0 * 100 + z1, z2, z3, z4, z5, z6, none) else badT) := by
 subst hz
 have hl : (([z0, z1, z2, z3, z4, z5, z6] : List Int).length : Int) = 7 := rfl
 unfold pReadTime_j2
 have g0 : ([z0, z1, z2, z3, z4, z5, z6] : List Int).getD 0 0 = z0 := rfl
 have g1 : ([z0, z1, z2, z3, z4, z5, z6] : List Int).getD 1 0 = z1 := rfl
 have g2 : ([z0, z1, z2, z3, z4, z5, z6] : List Int).getD 2 0 = z2 := rfl
 have g3 : ([z0, z1, z2, z3, z4, z5, z6] : List Int).getD 3 0 = z3 := rfl
 have g4 : ([z0, z1, z2, z3, z4, z5, z6] : List Int).getD 4 0 = z4 := rfl
 have g5 : ([z0, z1, z2, z3, z4, z5, z6] : List Int).getD 5 0 = z5 := rfl
 have g6 : ([z0, z1, z2, z3, z4, z5, z6] : List Int).getD 6 0 = z6 := rfl
 rw [g0, g1, g2, g3, g4, g5, g6, hl]
 rw [gd_pos (by omega), gd_pos (by omega), gd_pos (okI64 (by omega) (by omega)), gd_pos (by omega), gd_pos (by omega), gd_pos (okI64 (by omega) (by omega)), gd_pos (by omega), gd_pos (by omega), gd_pos (by omega), gd_pos (by omega), gd_pos (by omega), gd_pos (by omega), gd_pos (by omega), gd_pos (by omega), gd_pos (by omega), gd_pos (by omega), pTime_is hn, Option.bind_some]
 by_cases hv : okZ (z0 * 100 + z1) z2 z3 z4 z5 z6
 ·rw [if_pos hv, ite_f (by rfl)]
  by_cases hm : markZ (z0 * 100 + z1) = mk
  ·rw [ite_f (by simp [hm]), if_pos ⟨hv, hm⟩]
  ·rw [ite_t (by simpa using hm), if_neg (fun h => hm h.2)]
 ·rw [if_neg hv, ite_t (by rfl), if_neg (fun h => hv h.1)]
theorem pRead_23 {n : Nat} (hn : 100 ≤ n) (a : List UInt8) (ha : a.length = 13) : pReadTime n 23 a = some (if a.getD 12 0 = 90 ∧ allp a 0 6 = true then (if okT 23 ((if 50 ≤ vp a 0 then 19 else 20) * 100 + vp a 0) (vp a 1) (vp a 2) (vp a 3) (vp a 4) (vp a 5) then ((if 50 ≤ vp a 0 then 19 else 20) * 100 + vp a 0, vp a 1, vp a 2, vp a 3, vp a 4, vp a 5, none) else badT) else badT) := by
 unfold pReadTime
 rw [ite_f (by rfl)]
 unfold pReadTime_j1
 have e : (((13 : Int) - 1).toNat) = 12 := rfl
 rw [ite_f (by rfl), ite_f (by rw [ha]; rfl), gd_pos (okI64 (by omega) (by omega)), gd_pos (by omega), gd_pos (by omega), e]
 by_cases hz : a.getD 12 0 = 90
 ·rw [ite_f (by rw [hz]; rfl)]
  have := l2_is n 23 a 6 (by omega) 6 0 n rfl (by omega) (by decide)
  rw [show vs a 0 = [] from rfl, show ((2 * 0 : Nat) : Int) = 0 from rfl, show ((2 * 6 + 1 : Nat) : Int) = 13 from rfl] at this
  rw [this]
  by_cases hp : allp a 0 6 = true
  ·rw [if_pos hp, if_pos ⟨hz, hp⟩]
   have h0 : okp a 0 = true := by simp only [allp, Bool.and_eq_true] at hp; exact hp.1
   have hb := vp_b h0
   have e6 : vs a 6 = [vp a 0, vp a 1, vp a 2, vp a 3, vp a 4, vp a 5] := rfl
   have hall := hp
   simp only [allp, Bool.and_eq_true] at hall
   have b1 := vp_b hall.2.1; have b2 := vp_b hall.2.2.1; have b3 := vp_b hall.2.2.2.1; have b4 := vp_b hall.2.2.2.2.1; have b5 := vp_b hall.2.2.2.2.2.1
   rw [ite_t (by rfl), e6, gd_pos (by omega), gd_pos (by simp)]
   by_cases h50 : 50 ≤ vp a 0
   ·rw [ite_t (by simpa using h50), if_pos h50]
    unfold pReadTime_j5
    rw [gd_pos (by unfold rmB; simp)]
    exact j4_is hn 23 [19, vp a 0, vp a 1, vp a 2, vp a 3, vp a 4, vp a 5] 19 (vp a 0) (vp a 1) (vp a 2) (vp a 3) (vp a 4) (vp a 5) rfl (by omega) (by omega) (by omega) (by omega) (by omega) (by omega)
   ·rw [ite_f (by simpa using h50), if_neg h50]
    unfold pReadTime_j5
    rw [gd_pos (by unfold rmB; simp)]
    exact j4_is hn 23 [20, vp a 0, vp a 1, vp a 2, vp a 3, vp a 4, vp a 5] 20 (vp a 0) (vp a 1) (vp a 2) (vp a 3) (vp a 4) (vp a 5) rfl (by omega) (by omega) (by omega) (by omega) (by omega) (by omega)
  ·rw [if_neg hp, if_neg (fun h => hp h.2)]
 ·rw [ite_t (by simpa using hz), if_neg (fun h => hz h.1)]
theorem pRead_24 {n : Nat} (hn : 100 ≤ n) (a : List UInt8) (ha : a.length = 15) : pReadTime n 24 a = some (if a.getD 14 0 = 90 ∧ allp a 0 7 = true then (if okT 24 (vp a 0 * 100 + vp a 1) (vp a 2) (vp a 3) (vp a 4) (vp a 5) (vp a 6) then (vp a 0 * 100 + vp a 1, vp a 2, vp a 3, vp a 4, vp a 5, vp a 6, none) else badT) else badT) := by
 unfold pReadTime
 rw [ite_t (by rfl)]
 unfold pReadTime_j1
 have e : (((15 : Int) - 1).toNat) = 14 := rfl
 rw [ite_t (by rfl), ite_f (by rfl), ite_f (by rw [ha]; rfl), gd_pos (okI64 (by omega) (by omega)), gd_pos (by omega), gd_pos (by omega), e]
 by_cases hz : a.getD 14 0 = 90
 ·rw [ite_f (by rw [hz]; rfl)]
  have := l1_is n 24 a 7 (by omega) 7 0 n rfl (by omega) (by decide)
  rw [show vs a 0 = [] from rfl, show ((2 * 0 : Nat) : Int) = 0 from rfl, show ((2 * 7 + 1 : Nat) : Int) = 15 from rfl] at this
  rw [this]
  by_cases hp : allp a 0 7 = true
  ·rw [if_pos hp, if_pos ⟨hz, hp⟩]
   have e7 : vs a 7 = [vp a 0, vp a 1, vp a 2, vp a 3, vp a 4, vp a 5, vp a 6] := rfl
   have hall := hp
   simp only [allp, Bool.and_eq_true] at hall
   have b0 := vp_b hall.1; have b1 := vp_b hall.2.1; have b2 := vp_b hall.2.2.1; have b3 := vp_b hall.2.2.2.1; have b4 := vp_b hall.2.2.2.2.1; have b5 := vp_b hall.2.2.2.2.2.1; have b6 := vp_b hall.2.2.2.2.2.2.1
   rw [ite_f (by rfl), e7]
   exact j2_is hn 24 [vp a 0, vp a 1, vp a 2, vp a 3, vp a 4, vp a 5, vp a 6] (vp a 0) (vp a 1) (vp a 2) (vp a 3) (vp a 4) (vp a 5) (vp a 6) rfl (by omega) (by omega) (by omega) (by omega) (by omega) (by omega)
  ·rw [if_neg hp, if_neg (fun h => hp h.2)]
 ·rw [ite_t (by simpa using hz), if_neg (fun h => hz h.1)]
theorem two_at (a : List UInt8) (k : Nat) (x : Int) (hx : 0 ≤ x ∧ x ≤ 99) (h1 : a.getD (2 * k) 0 = UInt8.ofInt (48 + x / 10)) (h2 : a.getD (2 * k + 1) 0 = UInt8.ofInt (48 + x % 10)) : okp a k = true ∧ x = vp a k := by
 have ho := ok_two hx
 have hok : okp a k = true := by unfold okp; rw [h1, h2, ho.1, ho.2]; rfl
 refine ⟨hok, ?_⟩
 unfold vp
 rw [h1, h2, sub48 ho.1, sub48 ho.2, ofIntB, ofIntB]; omega
theorem list13 {a : List UInt8} (h : a.length = 13) : a = [a.getD 0 0, a.getD 1 0, a.getD 2 0, a.getD 3 0, a.getD 4 0, a.getD 5 0, a.getD 6 0, a.getD 7 0, a.getD 8 0, a.getD 9 0, a.getD 10 0, a.getD 11 0, a.getD 12 0] := by
 match a, h with
 | [_, _, _, _, _, _, _, _, _, _, _, _, _], _ => rfl
theorem list15 {a : List UInt8} (h : a.length = 15) : a = [a.getD 0 0, a.getD 1 0, a.getD 2 0, a.getD 3 0, a.getD 4 0, a.getD 5 0, a.getD 6 0, a.getD 7 0, a.getD 8 0, a.getD 9 0, a.getD 10 0, a.getD 11 0, a.getD 12 0, a.getD 13 0, a.getD 14 0] := by
 match a, h with
 | [_, _, _, _, _, _, _, _, _, _, _, _, _, _, _], _ => rfl
theorem two6 {a : List UInt8} (h : a.length = 13) {x0 x1 x2 x3 x4 x5 : Int} (hx : In100 [x0, x1, x2, x3, x4, x5]) : two2 [x0, x1, x2, x3, x4, x5] ++ [90] = a ↔ allp a 0 6 = true ∧ a.getD 12 0 = 90 ∧ x0 = vp a 0 ∧ x1 = vp a 1 ∧ x2 = vp a 2 ∧ x3 = vp a 3 ∧ x4 = vp a 4 ∧ x5 = vp a 5 := by
 have e : two2 [x0, x1, x2, x3, x4, x5] ++ [90] = [UInt8.ofInt (48 + x0 / 10), UInt8.ofInt (48 + x0 % 10), UInt8.ofInt (48 + x1 / 10), UInt8.ofInt (48 + x1 % 10), UInt8.ofInt (48 + x2 / 10), UInt8.ofInt (48 + x2 % 10), UInt8.ofInt (48 + x3 / 10), UInt8.ofInt (48 + x3 % 10), UInt8.ofInt (48 + x4 / 10), UInt8.ofInt (48 + x4 % 10), UInt8.ofInt (48 + x5 / 10), UInt8.ofInt (48 + x5 % 10), 90] := rfl
 constructor
 ·intro ha
  subst ha
  have p : ∀ k x, (0 ≤ x ∧ x ≤ 99) → (two2 [x0, x1, x2, x3, x4, x5] ++ [90]).getD (2 * k) 0 = UInt8.ofInt (48 + x / 10) → (two2 [x0, x1, x2, x3, x4, x5] ++ [90]).getD (2 * k + 1) 0 = UInt8.ofInt (48 + x % 10) → okp (two2 [x0, x1, x2, x3, x4, x5] ++ [90]) k = true ∧ x = vp (two2 [x0, x1, x2, x3, x4, x5] ++ [90]) k := two_at _
  have q0 := p 0 x0 (hx _ (by simp)) rfl rfl
  have q1 := p 1 x1 (hx _ (by simp)) rfl rfl
  have q2 := p 2 x2 (hx _ (by simp)) rfl rfl
  have q3 := p 3 x3 (hx _ (by simp)) rfl rfl
  have q4 := p 4 x4 (hx _ (by simp)) rfl rfl
  have q5 := p 5 x5 (hx _ (by simp)) rfl rfl
  exact ⟨by simp only [allp, q0.1, q1.1, q2.1, q3.1, q4.1, q5.1, Bool.and_true], rfl, q0.2, q1.2, q2.2, q3.2, q4.2, q5.2⟩
 ·rintro ⟨hp, hz, rfl, rfl, rfl, rfl, rfl, rfl⟩
  simp only [allp, Bool.and_eq_true] at hp
  have t0 := vp_two hp.1; have t1 := vp_two hp.2.1; have t2 := vp_two hp.2.2.1; have t3 := vp_two hp.2.2.2.1; have t4 := vp_two hp.2.2.2.2.1; have t5 := vp_two hp.2.2.2.2.2.1
  rw [e, t0.1, t0.2, t1.1, t1.2, t2.1, t2.2, t3.1, t3.2, t4.1, t4.2, t5.1, t5.2, ← hz]
  exact (list13 h).symm
theorem two7 {a : List UInt8} (h : a.length = 15) {x0 x1 x2 x3 x4 x5 x6 : Int} (hx : In100 [x0, x1, x2, x3, x4, x5, x6]) : two2 [x0, x1, x2, x3, x4, x5, x6] ++ [90] = a ↔ allp a 0 7 = true ∧ a.getD 14 0 = 90 ∧ x0 = vp a 0 ∧ x1 = vp a 1 ∧ x2 = vp a 2 ∧ x3 = vp a 3 ∧ x4 = vp a 4 ∧ x5 = vp a 5 ∧ x6 = vp a 6 := by
 have e : two2 [x0, x1, x2, x3, x4, x5, x6] ++ [90] = [UInt8.ofInt (48 + x0 / 10), UInt8.ofInt (48 + x0 % 10), UInt8.ofInt (48 + x1 / 10), UInt8.ofInt (48 + x1 % 10), UInt8.ofInt (48 + x2 / 10), UInt8.ofInt (48 + x2 % 10), UInt8.ofInt (48 + x3 / 10), UInt8.ofInt (48 + x3 % 10), UInt8.ofInt (48 + x4 / 10), UInt8.ofInt (48 + x4 % 10), UInt8.ofInt (48 + x5 / 10), UInt8.ofInt (48 + x5 % 10), UInt8.ofInt (48 + x6 / 10), UInt8.ofInt (48 + x6 % 10), 90] := rfl
 constructor
 ·intro ha
  subst ha
  have p : ∀ k x, (0 ≤ x ∧ x ≤ 99) → (two2 [x0, x1, x2, x3, x4, x5, x6] ++ [90]).getD (2 * k) 0 = UInt8.ofInt (48 + x / 10) → (two2 [x0, x1, x2, x3, x4, x5, x6] ++ [90]).getD (2 * k + 1) 0 = UInt8.ofInt (48 + x % 10) → okp (two2 [x0, x1, x2, x3, x4, x5, x6] ++ [90]) k = true ∧ x = vp (two2 [x0, x1, x2, x3, x4, x5, x6] ++ [90]) k := two_at _
  have q0 := p 0 x0 (hx _ (by simp)) rfl rfl
  have q1 := p 1 x1 (hx _ (by simp)) rfl rfl
  have q2 := p 2 x2 (hx _ (by simp)) rfl rfl
  have q3 := p 3 x3 (hx _ (by simp)) rfl rfl
  have q4 := p 4 x4 (hx _ (by simp)) rfl rfl
  have q5 := p 5 x5 (hx _ (by simp)) rfl rfl
  have q6 := p 6 x6 (hx _ (by simp)) rfl rfl
  exact ⟨by simp only [allp, q0.1, q1.1, q2.1, q3.1, q4.1, q5.1, q6.1, Bool.and_true], rfl, q0.2, q1.2, q2.2, q3.2, q4.2, q5.2, q6.2⟩
 ·rintro ⟨hp, hz, rfl, rfl, rfl, rfl, rfl, rfl, rfl⟩
  simp only [allp, Bool.and_eq_true] at hp
  have t0 := vp_two hp.1; have t1 := vp_two hp.2.1; have t2 := vp_two hp.2.2.1; have t3 := vp_two hp.2.2.2.1; have t4 := vp_two hp.2.2.2.2.1; have t5 := vp_two hp.2.2.2.2.2.1; have t6 := vp_two hp.2.2.2.2.2.2.1
  rw [e, t0.1, t0.2, t1.1, t1.2, t2.1, t2.2, t3.1, t3.2, t4.1, t4.2, t5.1, t5.2, t6.1, t6.2, ← hz]
  exact (list15 h).symm
theorem two_len (l : List Int) : (two2 l).length = 2 * l.length := by
 induction l with
 | nil => rfl
 | cons x l ih => show (two2 l).length + 2 = _; rw [ih, List.length_cons]; omega
theorem pAt_l1_is (n : Nat) {c y : Int} (hy1 : 1 ≤ y) (hy2 : y ≤ 9999) (hc0 : 0 ≤ c) (hc2 : c < 400000000000) (hlo : aheadZ y ≤ c / 86400) (hhi : c / 86400 < aheadZ (y + 1)) : ∀ (k j fu : Nat), j + k = 11 → k < fu → 0 ≤ c / 86400 - aheadZ y - msum y j →
  ∃ m d h i s, pAt_l1 n c y fu (c / 86400 - aheadZ y - msum y j) ((j : Int) + 1) = some (y, m, d, h, i, s, none) ∧ okZ y m d h i s ∧ countZ y m d h i s = c := by
 have hs := ahead_succ hy1
 have hm13 := msum_13 y
 have ha := ahead_b hy1 (by omega)
 have t0 : Int.tmod c 86400 = c % 86400 := Int.tmod_eq_emod_of_nonneg hc0
 have t1 : Int.tdiv (c % 86400) 3600 = c % 86400 / 3600 := Int.tdiv_eq_ediv_of_nonneg (by omega)
 have t2 : Int.tdiv (c % 86400) 60 = c % 86400 / 60 := Int.tdiv_eq_ediv_of_nonneg (by omega)
 have t3 : Int.tmod (c % 86400 / 60) 60 = c % 86400 / 60 % 60 := Int.tmod_eq_emod_of_nonneg (by omega)
 have t4 : Int.tmod (c % 86400) 60 = c % 86400 % 60 := Int.tmod_eq_emod_of_nonneg (by omega)
 have fin : ∀ (j : Nat) (fu : Nat), j ≤ 11 → 0 ≤ c / 86400 - aheadZ y - msum y j → c / 86400 - aheadZ y - msum y j < daysZ y ((j : Int) + 1) →
   ∃ m d h i s, pAt_l1 n c y (fu + 1) (c / 86400 - aheadZ y - msum y j) ((j : Int) + 1) = some (y, m, d, h, i, s, none) ∧ okZ y m d h i s ∧ countZ y m d h i s = c := by
  intro j fu hj h0 hlt
  have hdd := daysZ_b y ((j : Int) + 1)
  refine ⟨(j : Int) + 1, c / 86400 - aheadZ y - msum y j + 1, c % 86400 / 3600, c % 86400 / 60 % 60, c % 86400 % 60, ?_, ⟨hy1, hy2, by omega, by omega, by omega, by omega, by omega, by omega, by omega, by omega, by omega, by omega⟩, ?_⟩
  ·rw [pAt_l1, days_is n (by omega), Option.bind_some, ite_f (by simp; omega), t0, t1, t2, t3, t4, gd_pos (okI64 (by omega) (by omega)), gd_pos (by decide), gd_pos (okI64 (by omega) (by omega)), gd_pos (by decide), gd_pos (okI64 (by omega) (by omega)), gd_pos (by decide), gd_pos (by decide)]
  ·unfold countZ
   have e : ((j : Int) + 1 - 1).toNat = j := by omega
   rw [e]; omega
 intro k
 induction k with
 | zero =>
  intro j fu hj hf h0
  cases fu with
  | zero => omega
  | succ fu =>
   obtain rfl : j = 11 := by omega
   refine fin 11 fu (by omega) h0 ?_
   have e : msum y 12 = msum y 11 + daysZ y (((11 : Nat) : Int) + 1) := rfl
   rw [hm13] at e
   split at hs <;> split at e <;> first | omega | contradiction
 | succ k ih =>
  intro j fu hj hf h0
  cases fu with
  | zero => omega
  | succ fu =>
   by_cases hlt : c / 86400 - aheadZ y - msum y j < daysZ y ((j : Int) + 1)
   ·exact fin j fu (by omega) h0 hlt
   ·have hdd := daysZ_b y ((j : Int) + 1)
    have hmb := msum_b y j
    rw [pAt_l1, days_is n (by omega), Option.bind_some, ite_t (by simp; omega), Option.bind_some, gd_pos (okI64 (by omega) (by omega)), gd_pos (okI64 (by omega) (by omega))]
    have := ih (j + 1) fu (by omega) (by omega) (by simp only [msum]; omega)
    simp only [msum] at this
    rw [show c / 86400 - aheadZ y - msum y j - daysZ y ((j : Int) + 1) = c / 86400 - aheadZ y - (msum y j + daysZ y ((j : Int) + 1)) by omega, show (j : Int) + 1 + 1 = ((j + 1 : Nat) : Int) + 1 by omega]
    exact this
theorem pAt_l2_is {n : Nat} (hn : 100 ≤ n) {c : Int} (hc0 : 0 ≤ c) (hc : c / 86400 < aheadZ 10000) : ∀ (k fu : Nat) (y : Int), y + k = 9999 → 1 ≤ y → k < fu → aheadZ y ≤ c / 86400 →
  ∃ y' m d h i s, pAt_l2 n c fu y = some (y', m, d, h, i, s, none) ∧ okZ y' m d h i s ∧ countZ y' m d h i s = c := by
 have hc3 : aheadZ 10000 = 3652059 := by decide
 have t0 : Int.tdiv c 86400 = c / 86400 := Int.tdiv_eq_ediv_of_nonneg hc0
 have fin : ∀ (fu : Nat) (y : Int), 1 ≤ y → y ≤ 9999 → aheadZ y ≤ c / 86400 → c / 86400 < aheadZ (y + 1) → ∃ y' m d h i s, pAt_l2 n c (fu + 1) y = some (y', m, d, h, i, s, none) ∧ okZ y' m d h i s ∧ countZ y' m d h i s = c := by
  intro fu y h1 h2 hlo hhi
  have ha := ahead_b h1 (by omega)
  obtain ⟨m, d, h, i, s, k1, k2, k3⟩ := pAt_l1_is n h1 h2 hc0 (by omega) hlo hhi 11 0 n rfl (by omega) (by simp only [msum]; omega)
  refine ⟨y, m, d, h, i, s, ?_, k2, k3⟩
  rw [pAt_l2, gd_pos (okI64 (by omega) (by omega)), ahead_is n (by omega) (by omega), Option.bind_some, t0, ite_f (by simp; omega)]
  unfold pAt_j1
  rw [ahead_is n h1 (by omega), Option.bind_some, t0, gd_pos (okI64 (by omega) (by omega))]
  simp only [msum, Int.sub_zero] at k1
  exact k1
 intro k
 induction k with
 | zero =>
  intro fu y hk h1 hf hlo
  cases fu with
  | zero => omega
  | succ fu =>
   obtain rfl : y = 9999 := by omega
   exact fin fu 9999 (by omega) (by omega) hlo hc
 | succ k ih =>
  intro fu y hk h1 hf hlo
  cases fu with
  | zero => omega
  | succ fu =>
   by_cases hlt : c / 86400 < aheadZ (y + 1)
   ·exact fin fu y h1 (by omega) hlo hlt
   ·rw [pAt_l2, gd_pos (okI64 (by omega) (by omega)), ahead_is n (by omega) (by omega), Option.bind_some, t0, ite_t (by simp; omega), gd_pos (okI64 (by omega) (by omega))]
    exact ih fu (y + 1) (by omega) (by omega) (by omega) (by omega)
theorem pAt_is {n : Nat} (hn : 20000 ≤ n) (c : Int) (hc2 : c < 9223372036854775808) : (¬ (0 ≤ c ∧ c < 315537897600) ∧ pAt n c = some (0, 0, 0, 0, 0, 0, some 1)) ∨
  ((0 ≤ c ∧ c < 315537897600) ∧ ∃ y m d h i s, pAt n c = some (y, m, d, h, i, s, none) ∧ okZ y m d h i s ∧ countZ y m d h i s = c) := by
 have hc3 : aheadZ 10000 = 3652059 := by decide
 unfold pAt
 by_cases h0 : 0 ≤ c
 ·rw [ite_f (by simp; omega), ahead_is n (by omega) (by omega), Option.bind_some, hc3, gd_pos (okI64 (by omega) (by omega))]
  by_cases h1 : c < 315537897600
  ·right
   refine ⟨⟨h0, h1⟩, ?_⟩
   have t0 : Int.tdiv c 86400 = c / 86400 := Int.tdiv_eq_ediv_of_nonneg h0
   have t1 : Int.tdiv (c / 86400) 366 = c / 86400 / 366 := Int.tdiv_eq_ediv_of_nonneg (by omega)
   rw [ite_f (by simp; omega), t0, t1, gd_pos (by decide), gd_pos (okI64 (by omega) (by omega)), gd_pos (by decide), gd_pos (by decide), gd_pos (okI64 (by omega) (by omega)), gd_pos (okI64 (by omega) (by omega))]
   have hlo : aheadZ (c / 86400 / 366 + 1) ≤ c / 86400 := by unfold aheadZ; omega
   have hy : c / 86400 / 366 + 1 ≤ 9999 := by omega
   exact pAt_l2_is (by omega) h0 (by omega) (9999 - (c / 86400 / 366 + 1)).toNat n _ (by omega) (by omega) (by omega) hlo
  ·left
   exact ⟨fun h => h1 h.2, by rw [ite_t (by simp; omega)]⟩
 ·left
  exact ⟨fun h => h0 h.1, by rw [ite_t (by simp; omega)]⟩
end Go.Sx
end
section
namespace Go.Sx
section
variable {α : Type} (b : Nat) (f : α → Nat) (g : Nat → α)
def vl (l : List α) : Nat := l.foldr (fun x r => f x + b * r) 0
theorem vl_nil : vl b f [] = 0 := rfl
theorem vl_cons (x : α) (l : List α) : vl b f (x :: l) = f x + b * vl b f l := rfl
theorem vl_app (l m : List α) : vl b f (l ++ m) = vl b f l + b ^ l.length * vl b f m := by
 induction l with
 | nil => simp [vl_nil]
 | cons x l ih => simp only [List.cons_append, vl_cons, ih, List.length_cons, Nat.pow_succ]; grind
theorem vl_split (l : List α) (i : Nat) : vl b f l = vl b f (l.take i) + b ^ i * vl b f (l.drop i) := by
 induction i generalizing l with
 | zero => simp [vl_nil]
 | succ i ih =>
  cases l with
  | nil => simp [vl_nil]
  | cons x l => simp only [List.take_succ_cons, List.drop_succ_cons, vl_cons, Nat.pow_succ]; have := ih l; grind
theorem vl_take {z : α} (l : List α) (i : Nat) (h : i < l.length) : vl b f (l.take (i + 1)) = vl b f (l.take i) + b ^ i * f (l.getD i z) := by
 rw [List.take_succ_eq_append_getElem h, vl_app, List.getD_eq_getElem?_getD, List.getElem?_eq_getElem h]
 simp [vl_cons, vl_nil, Nat.min_eq_left (Nat.le_of_lt h)]
theorem vl_drop {z : α} (l : List α) (i : Nat) (h : i < l.length) : vl b f (l.drop i) = f (l.getD i z) + b * vl b f (l.drop (i + 1)) := by
 rw [List.drop_eq_getElem_cons h, vl_cons, List.getD_eq_getElem?_getD, List.getElem?_eq_getElem h]; rfl
theorem vl_set {z : α} (l : List α) (i : Nat) (x : α) (h : i < l.length) : vl b f (l.set i x) + b ^ i * f (l.getD i z) = vl b f l + b ^ i * f x := by
 induction l generalizing i with
 | nil => simp at h
 | cons y l ih =>
  cases i with
  | zero => simp [vl_cons]; omega
  | succ i =>
   have := ih i (by simpa using h)
   simp only [List.set_cons_succ, vl_cons, Nat.pow_succ, List.getD_cons_succ]; grind
theorem vl_lt (l : List α) (h : ∀ x ∈ l, f x < b) : vl b f l < b ^ l.length := by
 induction l with
 | nil => simp [vl_nil]
 | cons x l ih =>
  have h1 := ih (fun y hy => h y (.tail _ hy))
  have h2 := h x (.head _)
  rw [vl_cons, List.length_cons, Nat.pow_succ]
  have : b * (vl b f l + 1) ≤ b * b ^ l.length := Nat.mul_le_mul_left b h1
  grind
theorem vl_rep {z : α} (hz : f z = 0) (n : Nat) : vl b f (List.replicate n z) = 0 := by
 induction n with
 | zero => rfl
 | succ n ih => rw [List.replicate_succ, vl_cons, ih, hz]; rfl
def dg (v : Nat) : List α := if h : 1 < b ∧ v ≠ 0 then g (v % b) :: dg (v / b) else []
termination_by v
decreasing_by exact Nat.div_lt_self (by omega) h.1
theorem dg_zero : dg b g 0 = [] := by rw [dg]; simp
theorem dg_pos (hb : 1 < b) {v : Nat} (h : v ≠ 0) : dg b g v = g (v % b) :: dg b g (v / b) := by rw [dg, dif_pos ⟨hb, h⟩]
theorem vl_dg (hb : 1 < b) (hfg : ∀ x < b, f (g x) = x) (v : Nat) : vl b f (dg b g v) = v := by
 induction v using Nat.strongRecOn with
 | _ v ih =>
  by_cases h : v = 0
  ·subst h; rw [dg_zero]; rfl
  ·rw [dg_pos b g hb h, vl_cons, ih _ (Nat.div_lt_self (by omega) hb), hfg _ (Nat.mod_lt _ (by omega)), Nat.mod_add_div]
theorem dg_len (hb : 1 < b) (v k : Nat) : (dg b g v).length ≤ k ↔ v < b ^ k := by
 induction k generalizing v with
 | zero =>
  by_cases h : v = 0
  ·subst h; simp [dg_zero]
  ·rw [dg_pos b g hb h]; simp; omega
 | succ k ih =>
  by_cases h : v = 0
  ·subst h; simp [dg_zero]; exact Nat.pow_pos (by omega)
  ·rw [dg_pos b g hb h, List.length_cons, Nat.add_le_add_iff_right, ih, Nat.pow_succ, Nat.div_lt_iff_lt_mul (by omega)]
theorem dg_mem (hb : 1 < b) {P : α → Prop} (hP : ∀ x < b, P (g x)) (v : Nat) : ∀ x ∈ dg b g v, P x := by
 induction v using Nat.strongRecOn with
 | _ v ih =>
  by_cases h : v = 0
  ·subst h; rw [dg_zero]; intro x hx; cases hx
  ·rw [dg_pos b g hb h]
   intro x hx
   cases hx with
   | head => exact hP _ (Nat.mod_lt _ (by omega))
   | tail _ hx => exact ih _ (Nat.div_lt_self (by omega) hb) x hx
theorem dg_vl (hb : 1 < b) (l : List α) (hl : ∀ x ∈ l, f x < b ∧ g (f x) = x) (h : ∀ h : l ≠ [], f (l.getLast h) ≠ 0) : dg b g (vl b f l) = l := by
 induction l with
 | nil => rw [vl_nil, dg_zero]
 | cons x l ih =>
  obtain ⟨h1, h2⟩ := hl x (.head _)
  have ih := ih (fun y hy => hl y (.tail _ hy)) (fun hn => by have := h (by simp); rwa [List.getLast_cons hn] at this)
  have hne : vl b f (x :: l) ≠ 0 := by
   rw [vl_cons]
   cases l with
   | nil => have := h (by simp); simp at this; omega
   | cons y l =>
    intro h0
    have : vl b f (y :: l) = 0 := by
     cases Nat.eq_zero_of_add_eq_zero_left h0 |> Nat.mul_eq_zero.1 with
     | inl h => omega
     | inr h => exact h
    rw [this, dg_zero] at ih
    cases ih
  rw [dg_pos b g hb hne, vl_cons, Nat.add_mul_mod_self_left, Nat.mod_eq_of_lt h1, h2, Nat.add_mul_div_left _ _ (by omega), Nat.div_eq_of_lt h1, Nat.zero_add, ih]
theorem dg_get (hb : 1 < b) {z : α} (hfg : ∀ x < b, f (g x) = x) (hz : f z = 0) (v i : Nat) : f ((dg b g v).getD i z) = v / b ^ i % b := by
 induction i generalizing v with
 | zero =>
  by_cases h : v = 0
  ·subst h; simp [dg_zero, hz]
  ·rw [dg_pos b g hb h]; simp; exact hfg _ (Nat.mod_lt _ (by omega))
 | succ i ih =>
  by_cases h : v = 0
  ·subst h; simp [dg_zero, hz]
  ·rw [dg_pos b g hb h, List.getD_cons_succ, ih, Nat.pow_succ, Nat.div_div_eq_div_mul, Nat.mul_comm]
end
abbrev B2 : Nat := 4294967296
def nV (l : List UInt32) : Nat := vl 4294967296 UInt32.toNat l
def nD (v : Nat) : List UInt32 := dg 4294967296 UInt32.ofNat v
def nZ (l : List Int) : Nat := vl 65536 Int.toNat l
def nE (v : Nat) : List Int := dg 65536 Int.ofNat v
theorem u32_lt (x : UInt32) : x.toNat < 4294967296 := x.toNat_lt
theorem u32_of (x : Nat) (h : x < 4294967296) : (UInt32.ofNat x).toNat = x := by simp; omega
theorem V_D (v : Nat) : nV (nD v) = v := vl_dg _ _ _ (by decide) u32_of v
theorem Z_E (v : Nat) : nZ (nE v) = v := vl_dg _ _ _ (by decide) (fun _ _ => rfl) v
theorem D_len (v k : Nat) : (nD v).length ≤ k ↔ v < 4294967296 ^ k := dg_len _ _ (by decide) v k
theorem E_len (v k : Nat) : (nE v).length ≤ k ↔ v < 65536 ^ k := dg_len _ _ (by decide) v k
theorem D_zero : nD 0 = [] := dg_zero _ _
theorem E_zero : nE 0 = [] := dg_zero _ _
theorem V_lt (l : List UInt32) : nV l < 4294967296 ^ l.length := vl_lt _ _ _ fun x _ => u32_lt x
def Dz (l : List Int) : Prop := ∀ x ∈ l, 0 ≤ x ∧ x < 65536
theorem E_dz (v : Nat) : Dz (nE v) := dg_mem _ _ (by decide) (fun x _ => ⟨Int.natCast_nonneg x, by show (x : Int) < 65536; omega⟩) v
theorem Z_lt {l : List Int} (h : Dz l) : nZ l < 65536 ^ l.length := vl_lt _ _ _ fun x hx => by have := h x hx; omega
theorem D_V {l : List UInt32} (h : ∀ h : l ≠ [], l.getLast h ≠ 0) : nD (nV l) = l :=
 dg_vl _ _ _ (by decide) l (fun x _ => ⟨u32_lt x, by simp⟩) fun hn h0 => h hn (UInt32.toNat_inj.1 h0)
theorem E_Z {l : List Int} (hl : Dz l) (h : ∀ h : l ≠ [], l.getLast h ≠ 0) : nE (nZ l) = l :=
 dg_vl _ _ _ (by decide) l (fun x hx => by have := hl x hx; exact ⟨by omega, by show ((x.toNat : Nat) : Int) = x; omega⟩) fun hn h0 => h hn (by have := hl _ (List.getLast_mem hn); omega)
theorem D_get (v i : Nat) : ((nD v).getD i 0).toNat = v / 4294967296 ^ i % 4294967296 := dg_get _ _ _ (by decide) u32_of rfl v i
theorem V_nil : nV [] = 0 := rfl
theorem V_cons (x : UInt32) (l : List UInt32) : nV (x :: l) = x.toNat + 4294967296 * nV l := rfl
theorem V_split (l : List UInt32) (i : Nat) : nV l = nV (l.take i) + 4294967296 ^ i * nV (l.drop i) := vl_split _ _ l i
theorem V_take (l : List UInt32) (i : Nat) (h : i < l.length) : nV (l.take (i + 1)) = nV (l.take i) + 4294967296 ^ i * (l.getD i 0).toNat := vl_take _ _ l i h
theorem V_drop (l : List UInt32) (i : Nat) (h : i < l.length) : nV (l.drop i) = (l.getD i 0).toNat + 4294967296 * nV (l.drop (i + 1)) := vl_drop _ _ l i h
theorem V_set (l : List UInt32) (i : Nat) (x : UInt32) (h : i < l.length) : nV (l.set i x) + 4294967296 ^ i * (l.getD i 0).toNat = nV l + 4294967296 ^ i * x.toNat := vl_set _ _ l i x h
theorem V_rep (n : Nat) : nV (List.replicate n 0) = 0 := vl_rep (z := (0 : UInt32)) _ _ rfl n
theorem Z_nil : nZ [] = 0 := rfl
theorem Z_cons (x : Int) (l : List Int) : nZ (x :: l) = x.toNat + 65536 * nZ l := rfl
theorem Z_app (l m : List Int) : nZ (l ++ m) = nZ l + 65536 ^ l.length * nZ m := vl_app _ _ l m
theorem Z_split (l : List Int) (i : Nat) : nZ l = nZ (l.take i) + 65536 ^ i * nZ (l.drop i) := vl_split _ _ l i
theorem Z_take (l : List Int) (i : Nat) (h : i < l.length) : nZ (l.take (i + 1)) = nZ (l.take i) + 65536 ^ i * (l.getD i 0).toNat := vl_take _ _ l i h
theorem Z_drop (l : List Int) (i : Nat) (h : i < l.length) : nZ (l.drop i) = (l.getD i 0).toNat + 65536 * nZ (l.drop (i + 1)) := vl_drop _ _ l i h
end Go.Sx
end
section
namespace Go.Sx
open Go Go.RowKit Go.Ch Go.Proofs.Ytliilihbnhdemaa
theorem wpos {l : List UInt32} (h : l.length ≠ 0) : nV l = nV (l.take (l.length - 1)) + 4294967296 ^ (l.length - 1) * (l.getD (l.length - 1) 0).toNat := by
 have h1 := V_take l (l.length - 1) (by omega)
 rwa [show l.length - 1 + 1 = l.length by omega, List.take_length] at h1
theorem lastD {l : List UInt32} (h : l ≠ []) : l.getLast h = l.getD (l.length - 1) 0 := by
 have : l.length - 1 < l.length := by have := List.length_pos_iff.2 h; omega
 rw [List.getLast_eq_getElem, List.getD_eq_getElem?_getD, List.getElem?_eq_getElem this]; rfl
theorem ptrim_l1_is (n : Nat) : ∀ (fu : Nat) (w : List UInt32), w.length < fu → w.length ≤ 1000000 → ptrim_l1 n fu w w.length = some (nD (nV w), (nD (nV w)).length) := by
 intro fu
 induction fu with
 | zero => intro w h; omega
 | succ fu ih =>
  intro w hf hw
  by_cases h0 : w.length = 0
  ·obtain rfl := List.eq_nil_of_length_eq_zero h0
   rw [ptrim_l1, ite_f (by simp), V_nil, D_zero]; try rfl
  ·have e : (((w.length : Nat) : Int) - 1).toNat = w.length - 1 := by omega
   rw [ptrim_l1, ite_t (by simp; omega), gd_pos (okI64 (by omega) (by omega)), gd_pos (by omega), gd_pos (by omega), e]
   by_cases hz : w.getD (w.length - 1) 0 = 0
   ·have hl : ((w.drop 0).take (w.length - 1)).length = w.length - 1 := by simp
    have hV := wpos h0
    rw [hz] at hV
    rw [ite_t (by rw [hz]; rfl), gd_pos (okI64 (by omega) (by omega)), gd_pos (by omega), gd_pos (by omega)]
    have := ih ((w.drop 0).take (w.length - 1)) (by omega) (by omega)
    rw [hl] at this
    rw [this, List.drop_zero, hV]; rfl
   ·rw [ite_f (by simp only [beq_eq_false_iff_ne]; exact hz)]
    rw [D_V (fun hn => by rw [lastD hn]; exact hz)]
theorem ptrim_is {n : Nat} (hn : 18446744073709551616 ≤ n) {a : List UInt32} (ha : a.length ≤ 1000000) : ptrim n a = some (nD (nV a), (nD (nV a)).length) := ptrim_l1_is n n a (by omega) ha
theorem D_le {a : List UInt32} : (nD (nV a)).length ≤ a.length := (D_len _ _).2 (V_lt a)
theorem V_take' (l : List UInt32) (i : Nat) : nV (l.take (i + 1)) = nV (l.take i) + 4294967296 ^ i * (l.getD i 0).toNat := by
 by_cases h : i < l.length
 ·exact V_take l i h
 ·rw [List.take_of_length_le (by omega), List.take_of_length_le (by omega), List.getD_eq_getElem?_getD, List.getElem?_eq_none (by omega)]; simp
theorem getD_set_ne {α : Type} {z : α} (l : List α) {i k : Nat} (x : α) (h : i ≠ k) : (l.set i x).getD k z = l.getD k z := by
 rw [List.getD_eq_getElem?_getD, List.getD_eq_getElem?_getD, List.getElem?_set_ne h]
theorem shr32_is (x : UInt32) (k : Nat) (h : k < 32) : (shr32 x (k : Int)).toNat = x.toNat / 2 ^ k := by
 unfold shr32
 rw [if_pos (by omega), Int.toNat_natCast, UInt32.toNat_shiftRight]
 have : (UInt32.ofNat k).toNat % 32 = k := by simp; omega
 rw [this, Nat.shiftRight_eq_div_pow]
theorem ofInt32 (t : Int) : (UInt32.ofInt t).toNat = (t % 4294967296).toNat := by
 simp [UInt32.ofInt]; omega
theorem lastZ {l : List Int} (h : l ≠ []) : l.getLast h = l.getD (l.length - 1) 0 := by
 have : l.length - 1 < l.length := by have := List.length_pos_iff.2 h; omega
 rw [List.getLast_eq_getElem, List.getD_eq_getElem?_getD, List.getElem?_eq_getElem this]; rfl
theorem Dz.get {l : List Int} (h : Dz l) (i : Nat) : 0 ≤ l.getD i 0 ∧ l.getD i 0 < 65536 := by
 by_cases hi : i < l.length
 ·rw [List.getD_eq_getElem?_getD, List.getElem?_eq_getElem hi]; exact h _ (List.getElem_mem hi)
 ·rw [List.getD_eq_getElem?_getD, List.getElem?_eq_none (by omega)]; decide
theorem Dz.take {l : List Int} (h : Dz l) (i : Nat) : Dz (l.take i) := fun x hx => h x (List.mem_of_mem_take hx)
theorem Dz.app {l m : List Int} (h : Dz l) (h2 : Dz m) : Dz (l ++ m) := fun x hx => (List.mem_append.1 hx).elim (h x) (h2 x)
theorem Dz.one {x : Int} (h : 0 ≤ x ∧ x < 65536) : Dz [x] := fun y hy => by rw [List.mem_singleton.1 hy]; exact h
theorem Dz.nil : Dz [] := fun x hx => by cases hx
theorem Dz.set {l : List Int} (h : Dz l) {x : Int} (hx : 0 ≤ x ∧ x < 65536) (i : Nat) : Dz (l.set i x) := fun y hy => (List.mem_or_eq_of_mem_set hy).elim (h y) fun e => by rw [e]; exact hx
theorem rtrim_l1_is (n : Nat) (a : List Int) (hd : Dz a) (ha : a.length ≤ 1000000) : ∀ (k fu : Nat), k < fu → k ≤ a.length → nZ (a.take k) = nZ a →
  ∃ m, rtrim_l1 n a fu (k : Int) = some (a, m) ∧ a.take m = nE (nZ a) ∧ m = (nE (nZ a)).length := by
 intro k
 have fin : ∀ k, k ≤ a.length → a.take k = nE (nZ a) → k = (nE (nZ a)).length := fun k h1 h2 => by rw [← h2, List.length_take]; omega
 induction k with
 | zero =>
  intro fu hf hk he
  cases fu with
  | zero => omega
  | succ fu =>
   have h0 : nZ a = 0 := by rw [← he]; rfl
   have h1 : a.take 0 = nE (nZ a) := by rw [h0, E_zero]; rfl
   exact ⟨0, by rw [rtrim_l1, ite_f (by simp), gd_pos (by omega), gd_pos (by omega)]; rfl, h1, fin 0 hk h1⟩
 | succ k ih =>
  intro fu hf hk he
  cases fu with
  | zero => omega
  | succ fu =>
   have e : (((k + 1 : Nat) : Int) - 1) = (k : Int) := by omega
   rw [rtrim_l1, ite_t (by simp <;> omega), e, gd_pos (okI64 (by omega) (by omega)), gd_pos (by omega), gd_pos (by omega), Int.toNat_natCast]
   have h1 := Z_take a k (by omega)
   by_cases hz : a.getD k 0 = 0
   ·rw [ite_t (by rw [hz]; rfl), gd_pos (okI64 (by omega) (by omega))]
    rw [hz] at h1
    exact ih fu (by omega) (by omega) (by rw [← he, h1]; rfl)
   ·rw [ite_f (by simp only [beq_eq_false_iff_ne]; exact hz), gd_pos (by omega), gd_pos (by omega)]
    have hl : (a.take (k + 1)).length = k + 1 := by rw [List.length_take]; omega
    have h2 : a.take (k + 1) = nE (nZ a) := by
     rw [← he]
     refine (E_Z (hd.take _) fun hn => ?_).symm
     rw [lastZ hn, hl, Nat.add_sub_cancel, List.getD_eq_getElem?_getD, List.getElem?_take_of_lt (by omega), ← List.getD_eq_getElem?_getD]
     exact hz
    exact ⟨k + 1, by rw [show (((k + 1 : Nat) : Int)).toNat = k + 1 by omega], h2, fin _ hk h2⟩
theorem rtrim_is {n : Nat} (hn : 18446744073709551616 ≤ n) {a : List Int} (hd : Dz a) (ha : a.length ≤ 1000000) : rtrim n a = some (a, (nE (nZ a)).length) ∧ (a.drop 0).take (nE (nZ a)).length = nE (nZ a) := by
 obtain ⟨m, h1, h2, h3⟩ := rtrim_l1_is n a hd ha a.length n (by omega) (Nat.le_refl _) (by rw [List.take_length])
 subst h3
 exact ⟨h1, h2⟩
theorem rOf_l1_is {n : Nat} (hn : 18446744073709551616 ≤ n) (a : List UInt32) (ha : a.length ≤ 100000) : ∀ (m i fu : Nat) (z : List Int), i + m = a.length → m < fu → z.length = 2 * i → Dz z → nZ z = nV (a.take i) →
  rOf_l1 n a fu z (i : Int) = some (nE (nV a), (nE (nV a)).length) := by
 intro m
 induction m with
 | zero =>
  intro i fu z hi hf hz hd he
  cases fu with
  | zero => omega
  | succ fu =>
   rw [List.take_of_length_le (by omega)] at he
   obtain ⟨h1, h2⟩ := rtrim_is hn hd (by omega)
   rw [rOf_l1, ite_f (by simp <;> omega), h1]
   simp only [Option.bind_some]
   rw [h2, he]
 | succ m ih =>
  intro i fu z hi hf hz hd he
  cases fu with
  | zero => omega
  | succ fu =>
   rw [rOf_l1, ite_t (by simp <;> omega), gd_pos (by omega), gd_pos (by omega), gd_pos (by decide), gd_pos (by omega), gd_pos (by omega), gd_pos (by decide), gd_pos (by unfold rmB; omega), gd_pos (okI64 (by omega) (by omega)), Int.toNat_natCast]
   have hX := u32_lt (a.getD i 0)
   have e1 : (a.getD i 0 % 65536).toNat = (a.getD i 0).toNat % 65536 := UInt32.toNat_mod _ _
   have e2 : (a.getD i 0 / 65536).toNat = (a.getD i 0).toNat / 65536 := UInt32.toNat_div _ _
   rw [e1, e2]
   refine ih (i + 1) fu _ (by omega) (by omega) (by simp <;> omega) (hd.app (by
    intro x hx
    rcases List.mem_cons.1 hx with rfl | hx
    ·omega
    ·rw [List.mem_singleton.1 hx]; omega)) ?_
   rw [Z_app, he, V_take', hz, Z_cons, Z_cons, Z_nil, Int.toNat_natCast, Int.toNat_natCast, Nat.pow_mul]
   have hdm := Nat.mod_add_div (a.getD i 0).toNat 65536
   show _ + 4294967296 ^ i * _ = _
   generalize (a.getD i 0).toNat % 65536 = x at *
   generalize (a.getD i 0).toNat / 65536 = y at *
   rw [← hdm]; rfl
theorem rOf_is {n : Nat} (hn : 18446744073709551616 ≤ n) {a : List UInt32} (ha : a.length ≤ 100000) : rOf n a = some (nE (nV a), (nE (nV a)).length) :=
 rOf_l1_is hn a ha a.length 0 n [] (by omega) (by omega) rfl Dz.nil rfl
theorem E64 (v : Nat) : (nE v).length ≤ 128 ↔ (nD v).length ≤ 64 := by
 rw [E_len, D_len, show (65536 : Nat) ^ 128 = 4294967296 ^ 64 by rw [show (128 : Nat) = 2 * 64 from rfl, Nat.pow_mul]]
theorem E_mono {x y : Nat} (h : x ≤ y) : (nE x).length ≤ (nE y).length := (E_len _ _).2 (Nat.lt_of_le_of_lt h ((E_len _ _).1 (Nat.le_refl _)))
theorem u8_lt (x : UInt8) : x.toNat < 256 := x.toNat_lt
def spare (a : List UInt8) : Bool := ((a.getD 0 0).toNat == 0 && decide ((a.getD 1 0).toNat < 128)) || ((a.getD 0 0).toNat == 255 && decide (128 ≤ (a.getD 1 0).toNat))
theorem u8eq (x : UInt8) (k : Nat) (hk : k < 256) : (x == UInt8.ofNat k) = (x.toNat == k) := by
 rw [Bool.eq_iff_iff]
 simp only [beq_iff_eq, ← UInt8.toNat_inj]
 have : (UInt8.ofNat k).toNat = k := by simp; omega
 rw [this]
theorem pspare_is (n : Nat) {a : List UInt8} (h : 2 ≤ a.length) : pspare n a = some (spare a) := by
 unfold pspare spare
 have e0 : ((a.getD 0 0) == 0) = ((a.getD 0 0).toNat == 0) := u8eq _ 0 (by decide)
 have e1 : ((a.getD 0 0) == 255) = ((a.getD 0 0).toNat == 255) := u8eq _ 255 (by decide)
 have e2 : (decide ((a.getD 1 0) < (128 : UInt8))) = decide ((a.getD 1 0).toNat < 128) := by rw [Bool.eq_iff_iff]; simp only [decide_eq_true_eq]; exact UInt8.lt_iff_toNat_lt
 have e3 : (decide ((128 : UInt8) ≤ (a.getD 1 0))) = decide (128 ≤ (a.getD 1 0).toNat) := by rw [Bool.eq_iff_iff]; simp only [decide_eq_true_eq]; exact UInt8.le_iff_toNat_le
 rw [e0, e1, e2, e3]
 simp only [gd_pos (show (0 : Int) ≤ 0 by omega), gd_pos (show (0 : Int) < ((a.length : Nat) : Int) by omega), gd_pos (show (0 : Int) ≤ 1 by omega), gd_pos (show (1 : Int) < ((a.length : Nat) : Int) by omega)]
 cases h1 : ((a.getD 0 0).toNat == 0) <;> cases h2 : ((a.getD 0 0).toNat == 255) <;> cases h3 : decide ((a.getD 1 0).toNat < 128) <;> simp_all
def nB (l : List UInt8) : Nat := vl 256 UInt8.toNat l.reverse
def dB (v : Nat) : List UInt8 := (dg 256 UInt8.ofNat v).reverse
theorem b_lt (x : UInt8) : x.toNat < 256 := x.toNat_lt
theorem b_of (x : Nat) (h : x < 256) : (UInt8.ofNat x).toNat = x := by simp; omega
theorem nB_dB (v : Nat) : nB (dB v) = v := by unfold nB dB; rw [List.reverse_reverse]; exact vl_dg _ _ _ (by decide) b_of v
theorem dB_len (v k : Nat) : (dB v).length ≤ k ↔ v < 256 ^ k := by unfold dB; rw [List.length_reverse]; exact dg_len _ _ (by decide) v k
theorem nB_lt (l : List UInt8) : nB l < 256 ^ l.length := by
 have := vl_lt 256 UInt8.toNat l.reverse fun x _ => b_lt x
 rwa [List.length_reverse] at this
theorem nB_nil : nB [] = 0 := rfl
theorem nB_cons (x : UInt8) (l : List UInt8) : nB (x :: l) = nB l + 256 ^ l.length * x.toNat := by
 unfold nB
 rw [List.reverse_cons, vl_app, List.length_reverse, vl_cons, vl_nil]; simp
theorem nB_inj : ∀ {a b : List UInt8}, a.length = b.length → nB a = nB b → a = b
 | [], [], _, _ => rfl
 | x :: a, y :: b, hl, h => by
  have hl' : a.length = b.length := by simpa using hl
  rw [nB_cons, nB_cons, hl'] at h
  have h1 := nB_lt a
  have h2 := nB_lt b
  rw [hl'] at h1
  have hp : 0 < 256 ^ b.length := Nat.pow_pos (by decide)
  have e1 : (nB a + 256 ^ b.length * x.toNat) % 256 ^ b.length = nB a := by rw [Nat.add_mul_mod_self_left, Nat.mod_eq_of_lt h1]
  have e2 : (nB b + 256 ^ b.length * y.toNat) % 256 ^ b.length = nB b := by rw [Nat.add_mul_mod_self_left, Nat.mod_eq_of_lt h2]
  have e3 : nB a = nB b := by rw [← e1, h, e2]
  have e4 : x.toNat = y.toNat := by
   rw [e3] at h
   exact Nat.eq_of_mul_eq_mul_left hp (by omega)
  rw [nB_inj hl' e3, UInt8.toNat_inj.1 e4]
 | [], _ :: _, hl, _ => by simp at hl
 | _ :: _, [], hl, _ => by simp at hl
theorem nB_set : ∀ (l : List UInt8) (i : Nat) (x : UInt8), i < l.length → nB (l.set (l.length - 1 - i) x) + 256 ^ i * (l.getD (l.length - 1 - i) 0).toNat = nB l + 256 ^ i * x.toNat
 | [], _, _, h => by simp at h
 | y :: t, i, x, h => by
  by_cases hi : i = t.length
  ·subst hi
   have e : (y :: t).length - 1 - t.length = 0 := by simp
   rw [e, List.set_cons_zero, nB_cons, nB_cons]; simp; omega
  ·have hi' : i < t.length := by simp at h; omega
   have e : (y :: t).length - 1 - i = (t.length - 1 - i) + 1 := by simp; omega
   have ih := nB_set t i x hi'
   rw [e, List.set_cons_succ, nB_cons, nB_cons, List.getD_cons_succ, List.length_set]; omega
theorem nB_rep (n : Nat) : nB (List.replicate n 0) = 0 := by
 unfold nB; rw [List.reverse_replicate]; exact vl_rep (z := (0 : UInt8)) 256 UInt8.toNat rfl n
theorem mod_step (v i : Nat) : v % 256 ^ (i + 1) = v % 256 ^ i + 256 ^ i * (v / 256 ^ i % 256) := Nat.mod_pow_succ
structure Wr (l : List UInt8) (n i v : Nat) : Prop where
 len : l.length = n
 z : ∀ k, k + i < n → l.getD k 0 = 0
 val : nB l = v % 256 ^ i
theorem Wr.start (n v : Nat) : Wr (List.replicate n 0) n 0 v := ⟨by simp, fun k _ => by rw [List.getD_eq_getElem?_getD, List.getElem?_replicate]; split <;> rfl, by rw [nB_rep]; simp [Nat.mod_one]⟩
theorem Wr.step {l : List UInt8} {n i v : Nat} (h : Wr l n i v) (hi : i < n) {x : UInt8} (hx : x.toNat = v / 256 ^ i % 256) : Wr (l.set (n - 1 - i) x) n (i + 1) v := by
 have hl := h.len
 have hs := nB_set l i x (by omega)
 rw [hl, h.z (n - 1 - i) (by omega), h.val] at hs
 refine ⟨by rw [List.length_set]; exact hl, fun k hk => by rw [getD_set_ne _ _ (by omega)]; exact h.z k (by omega), ?_⟩
 rw [mod_step, ← hx]
 simpa using hs
theorem limb_byte (v i : Nat) : v / 4294967296 ^ (i / 4) % 4294967296 / 2 ^ (8 * (i % 4)) % 256 = v / 256 ^ i % 256 := by
 have e1 : (4294967296 : Nat) ^ (i / 4) = 256 ^ (4 * (i / 4)) := by rw [Nat.pow_mul]
 have e2 : (2 : Nat) ^ (8 * (i % 4)) = 256 ^ (i % 4) := by rw [Nat.pow_mul]
 have e3 : (4294967296 : Nat) = 256 ^ (i % 4) * (256 * 256 ^ (3 - i % 4)) := by
  rw [show 256 * 256 ^ (3 - i % 4) = 256 ^ (4 - i % 4) by rw [Nat.mul_comm, ← Nat.pow_succ]; congr 1; omega, ← Nat.pow_add, show i % 4 + (4 - i % 4) = 4 by omega]
 rw [e1, e2]
 conv => lhs; rw [e3]
 rw [Nat.mod_mul_right_div_self, Nat.div_div_eq_div_mul, ← Nat.pow_add, Nat.mod_mul_right_mod, show 4 * (i / 4) + i % 4 = i by omega]
theorem pWrite_l1_is (n : Nat) (v : Nat) (h64 : (nD v).length ≤ 64) : ∀ (m i fu : Nat) (l : List UInt8), i + m = 4 * (nD v).length → m < fu → Wr l 256 i v →
  ∃ r, pWrite_l1 n 256 (nD v, (nD v).length) fu l (i : Int) = some (r, 256, none) ∧ r.length = 256 ∧ nB r = v := by
 intro m
 induction m with
 | zero =>
  intro i fu l hi hf hw
  cases fu with
  | zero => omega
  | succ fu =>
   refine ⟨l, by rw [pWrite_l1, ite_f (by simp <;> omega)]; rfl, hw.len, ?_⟩
   rw [hw.val]
   refine Nat.mod_eq_of_lt ?_
   have := (D_len v (nD v).length).1 (Nat.le_refl _)
   rwa [show (4294967296 : Nat) = 256 ^ 4 from rfl, ← Nat.pow_mul, show 4 * (nD v).length = i by omega] at this
 | succ m ih =>
  intro i fu l hi hf hw
  cases fu with
  | zero => omega
  | succ fu =>
   have t1 : Int.tdiv (i : Int) 4 = ((i / 4 : Nat) : Int) := by rw [Int.tdiv_eq_ediv_of_nonneg (by omega)]; omega
   have t2 : 8 * Int.tmod (i : Int) 4 = ((8 * (i % 4) : Nat) : Int) := by rw [Int.tmod_eq_emod_of_nonneg (by omega)]; omega
   have e1 : ((256 : Int) - 1 - (i : Int)).toNat = 256 - 1 - i := by omega
   rw [pWrite_l1, ite_t (by simp <;> omega), t1, t2, e1, gd_pos (by decide), gd_pos (okI64 (by omega) (by omega)), gd_pos (by omega), gd_pos (by omega), gd_pos (by decide), gd_pos (okI64 (by omega) (by omega)), gd_pos (by omega), ite_t (by simp <;> omega), gd_pos (okI64 (by omega) (by omega)), gd_pos (okI64 (by omega) (by omega)), gd_pos (by omega), gd_pos (by show _ < ((256 : Nat) : Int); omega), Int.toNat_natCast]
   unfold pWrite_j1
   rw [gd_pos (okI64 (by omega) (by omega))]
   refine ih (i + 1) fu _ (by omega) (by omega) (hw.step (by omega) ?_)
   have e2 := shr32_is ((nD v).getD (i / 4) 0) (8 * (i % 4)) (by omega)
   rw [UInt32.toNat_toUInt8, e2, D_get, ← limb_byte]
theorem pWrite_is {n : Nat} (hn : 18446744073709551616 ≤ n) {a : List UInt32} (ha : a.length ≤ 1000000) :
  ∃ r, pWrite n a 256 = some r ∧ (64 < (nD (nV a)).length → r = ([], 0, some 4)) ∧ ((nD (nV a)).length ≤ 64 → r.1.length = 256 ∧ nB r.1 = nV a ∧ r.2.1 = 256 ∧ r.2.2 = none) := by
 unfold pWrite
 rw [ptrim_is hn ha, Option.bind_some]
 by_cases h : (nD (nV a)).length ≤ 64
 ·obtain ⟨r, h1, h2, h3⟩ := pWrite_l1_is n (nV a) h (4 * (nD (nV a)).length) 0 n _ (by omega) (by omega) (Wr.start 256 (nV a))
  rw [ite_f (by simp <;> omega), ite_f (by decide), ite_f (by decide), gd_pos (by decide), gd_pos (by decide), gd_pos (by decide), gd_pos (okI64 (by omega) (by omega))]
  exact ⟨_, h1, fun h' => by omega, fun _ => ⟨h2, h3, rfl, rfl⟩⟩
 ·rw [ite_t (by simp <;> omega)]
  exact ⟨_, rfl, fun _ => rfl, fun h' => absurd h' h⟩
def bigL (v : Nat) : List UInt8 := if dB v = [] ∨ 128 ≤ ((dB v).getD 0 0).toNat then 0 :: dB v else dB v
theorem dB_of {r : List UInt8} (h : r = [] ∨ (r.getD 0 0).toNat ≠ 0) : dB (nB r) = r := by
 refine nB_inj ?_ (nB_dB _)
 have h1 := nB_lt r
 have h2 := (dB_len (nB r) r.length).2 h1
 refine Nat.le_antisymm h2 ?_
 cases r with
 | nil => simp
 | cons x t =>
  simp only [List.getD_cons_zero] at h
  have hx : x.toNat ≠ 0 := h.resolve_left (by simp)
  refine Nat.le_of_not_lt fun hlt => ?_
  have h3 := (dB_len (nB (x :: t)) t.length).1 (by simp at hlt; omega)
  rw [nB_cons] at h3
  have := Nat.le_mul_of_pos_right (256 ^ t.length) (show 0 < x.toNat by omega)
  omega
theorem big_of {r : List UInt8} (h0 : r ≠ []) (h1 : (r.getD 0 0).toNat < 128) (hs : (decide (2 ≤ r.length) && spare r) = false) : r = bigL (nB r) := by
 cases r with
 | nil => exact absurd rfl h0
 | cons x t =>
  simp only [List.getD_cons_zero] at h1
  unfold bigL
  by_cases hx : x.toNat = 0
  ·have hx0 : x = 0 := UInt8.toNat_inj.1 hx
   subst hx0
   have hn : nB (0 :: t) = nB t := by rw [nB_cons]; simp
   have ht : t = [] ∨ 128 ≤ (t.getD 0 0).toNat := by
    cases t with
    | nil => exact .inl rfl
    | cons y t =>
     right
     simp [spare] at hs
     simpa using hs
   have hd : dB (nB t) = t := dB_of (ht.imp id fun h => by omega)
   rw [hn, hd, if_pos ht]
  ·have hd : dB (nB (x :: t)) = x :: t := dB_of (.inr (by simpa using hx))
   rw [hd, if_neg (by simp; omega)]
theorem pBig_l1_is (n : Nat) (v : Nat) : ∀ (m fu : Nat) (l : List UInt8), l.length = m + 1 → m < fu → l.length ≤ 1000 → (l.getD 0 0).toNat < 128 → nB l = v → pBig_l1 n fu l l.length = some (bigL v, none) := by
 intro m
 induction m with
 | zero =>
  intro fu l hl hf h8 h128 hv
  cases fu with
  | zero => omega
  | succ fu =>
   rw [pBig_l1, ite_f (by simp <;> omega)]
   unfold pBig_j1
   rw [gd_pos (by omega), ← hv, ← big_of (fun h => by rw [h] at hl; simp at hl) h128 (by simp; omega)]
 | succ m ih =>
  intro fu l hl hf h8 h128 hv
  cases fu with
  | zero => omega
  | succ fu =>
   match l, hl with
   | x :: y :: l, hl =>
    rw [pBig_l1, ite_t (by simp <;> omega), pspare_is n (by simp), Option.bind_some]
    simp only [List.getD_cons_zero] at h128
    cases hs : spare (x :: y :: l) with
    | true =>
     have hx : x.toNat = 0 ∧ y.toNat < 128 := by
      simp only [spare, List.getD_cons_zero, List.getD_cons_succ, Bool.or_eq_true, Bool.and_eq_true, beq_iff_eq, decide_eq_true_eq] at hs
      omega
     rw [ite_t rfl, gd_pos (by omega), gd_pos (by simp; omega)]
     have e : ((x :: y :: l).drop 1).take ((x :: y :: l).length - 1) = y :: l := by simp
     rw [e, show (x :: y :: l).length - 1 = (y :: l).length by simp]
     refine ih fu (y :: l) (by simpa using hl) (by omega) (by simp at h8 ⊢; omega) (by simpa using hx.2) ?_
     rw [← hv, nB_cons x, hx.1]; simp
    | false =>
     rw [ite_f rfl]
     unfold pBig_j1
     rw [gd_pos (by omega), ← hv, ← big_of (by simp) (by simpa using h128) (by rw [hs, Bool.and_false])]
theorem pBig_is {n : Nat} (hn : 18446744073709551616 ≤ n) {a : List UInt32} (ha : a.length ≤ 1000000) : pBig n a = some (if (nD (nV a)).length ≤ 64 then (bigL (nV a), none) else ([], some 4)) := by
 unfold pBig
 obtain ⟨r, hr, h1, h2⟩ := pWrite_is hn ha
 rw [hr, Option.bind_some]
 by_cases h : (nD (nV a)).length ≤ 64
 ·obtain ⟨h3, h4, h5, h6⟩ := h2 h
  rw [if_pos h, h6, ite_f (by rfl), h5, gd_pos (by decide)]
  have := pBig_l1_is n (nV a) 256 n ([0] ++ r.1) (by simp [h3]) (by omega) (by simp [h3]) (by simp) (by rw [List.singleton_append, nB_cons, h4]; simp)
  exact this
 ·rw [if_neg h, h1 (by omega), ite_t (by rfl)]
theorem nB_snoc (l : List UInt8) (x : UInt8) : nB (l ++ [x]) = nB l * 256 + x.toNat := by
 unfold nB; rw [List.reverse_append, List.reverse_singleton, List.singleton_append, vl_cons]; omega
theorem V_inj : ∀ {a b : List UInt32}, a.length = b.length → nV a = nV b → a = b
 | [], [], _, _ => rfl
 | x :: a, y :: b, hl, h => by
  have h1 := u32_lt x
  have h2 := u32_lt y
  rw [V_cons, V_cons] at h
  rw [V_inj (a := a) (b := b) (by simpa using hl) (by omega), UInt32.toNat_inj.1 (show x.toNat = y.toNat by omega)]
 | [], _ :: _, hl, _ => by simp at hl
 | _ :: _, [], hl, _ => by simp at hl
theorem limb_get (w : List UInt32) (k : Nat) (h : k < w.length) : nV w / 4294967296 ^ k % 4294967296 = (w.getD k 0).toNat := by
 have h1 := V_split w k
 have h2 := V_drop w k h
 have h3 := V_lt (w.take k)
 rw [List.length_take, Nat.min_eq_left (by omega)] at h3
 have h4 := u32_lt (w.getD k 0)
 have hp : 0 < 4294967296 ^ k := Nat.pow_pos (by decide)
 rw [h1, Nat.add_mul_div_left _ _ hp, Nat.div_eq_of_lt h3, h2]; omega
theorem or_byte (o : UInt32) (x : UInt8) (s : Nat) (hs : s < 4) (ho : o.toNat % 256 ^ (s + 1) = 0) : (o ||| shl32 x.toUInt32 ((8 * s : Nat) : Int)).toNat = o.toNat + 256 ^ s * x.toNat := by
 have hx := b_lt x
 have e0 : (2 : Nat) ^ (8 * s) = 256 ^ s := by rw [Nat.pow_mul]
 have hle : 256 ^ s ≤ 16777216 := Nat.le_trans (Nat.pow_le_pow_right (by decide) (show s ≤ 3 by omega)) (by decide)
 have hxs : x.toNat * 256 ^ s < 256 ^ (s + 1) := by
  rw [Nat.pow_succ, Nat.mul_comm]
  exact Nat.mul_lt_mul_of_pos_left hx (Nat.pow_pos (by decide))
 have hsm : x.toNat * 256 ^ s ≤ 255 * 16777216 := Nat.mul_le_mul (by omega) hle
 have e1 : (shl32 x.toUInt32 ((8 * s : Nat) : Int)).toNat = x.toNat * 256 ^ s := by
  unfold shl32
  rw [if_pos (by omega), Int.toNat_natCast, UInt32.toNat_shiftLeft, UInt8.toNat_toUInt32]
  have : (UInt32.ofNat (8 * s)).toNat % 32 = 8 * s := by simp; omega
  rw [this, Nat.shiftLeft_eq, e0]; omega
 obtain ⟨q, hq⟩ := Nat.dvd_of_mod_eq_zero ho
 have e2 : (256 : Nat) ^ (s + 1) = 2 ^ (8 * (s + 1)) := by rw [Nat.pow_mul]
 have h3 := Nat.shiftLeft_add_eq_or_of_lt (i := 8 * (s + 1)) (b := x.toNat * 256 ^ s) (by rw [← e2]; exact hxs) q
 rw [Nat.shiftLeft_eq, ← e2] at h3
 rw [UInt32.toNat_or, e1, hq, Nat.mul_comm _ q, ← h3, Nat.mul_comm x.toNat]
theorem pRead_l1_is (n : Nat) (b : List UInt8) (hb : b.length ≤ 256) : ∀ (m i fu : Nat) (w : List UInt32), i + m = b.length → m < fu → w.length = (b.length + 3) / 4 → nV w = nB (b.take i) * 256 ^ (b.length - i) →
  ∃ r, pRead_l1 n b b.length fu w (i : Int) = some (r, (b.length + 3) / 4, none) ∧ r.length = (b.length + 3) / 4 ∧ nV r = nB b := by
 have t0 : Int.tdiv (((b.length : Nat) : Int) + 3) 4 = (((b.length + 3) / 4 : Nat) : Int) := by rw [Int.tdiv_eq_ediv_of_nonneg (by omega)]; omega
 intro m
 induction m with
 | zero =>
  intro i fu w hi hf hw hv
  cases fu with
  | zero => omega
  | succ fu =>
   refine ⟨w, by rw [pRead_l1, ite_f (by simp <;> omega), t0, Int.toNat_natCast], hw, ?_⟩
   rw [hv, List.take_of_length_le (by omega), show b.length - i = 0 by omega]; simp
 | succ m ih =>
  intro i fu w hi hf hw hv
  cases fu with
  | zero => omega
  | succ fu =>
   obtain ⟨at', hat⟩ : ∃ k, k = b.length - 1 - i := ⟨_, rfl⟩
   have e1 : (((b.length : Nat) : Int) - 1) - (i : Int) = (at' : Int) := by omega
   have t1 : Int.tdiv (at' : Int) 4 = ((at' / 4 : Nat) : Int) := by rw [Int.tdiv_eq_ediv_of_nonneg (by omega)]; omega
   have t2 : 8 * Int.tmod (at' : Int) 4 = ((8 * (at' % 4) : Nat) : Int) := by rw [Int.tmod_eq_emod_of_nonneg (by omega)]; omega
   rw [pRead_l1, ite_t (by simp <;> omega), e1, t0, t1, t2, Int.toNat_natCast, Int.toNat_natCast, Int.toNat_natCast]
   rw [gd_pos (by omega), gd_pos (by omega), gd_pos (okI64 (by omega) (by omega)), gd_pos (okI64 (by omega) (by omega)), gd_pos (by decide), gd_pos (okI64 (by omega) (by omega)), gd_pos (by omega), gd_pos (by omega), gd_pos (by decide), gd_pos (okI64 (by omega) (by omega)), gd_pos (by omega), gd_pos (by omega), gd_pos (by omega), gd_pos (okI64 (by omega) (by omega))]
   have hk : at' / 4 < w.length := by omega
   have hpw : (4294967296 : Nat) ^ (at' / 4) = 256 ^ (4 * (at' / 4)) := by rw [Nat.pow_mul]
   have hg := limb_get w (at' / 4) hk
   have hz : (w.getD (at' / 4) 0).toNat % 256 ^ (at' % 4 + 1) = 0 := by
    rw [← hg, hv, show b.length - i = 4 * (at' / 4) + (at' % 4 + 1) by omega, hpw, Nat.pow_add, Nat.mul_comm (256 ^ (4 * (at' / 4))), ← Nat.mul_assoc, Nat.mul_div_cancel _ (Nat.pow_pos (by decide))]
    have e3 : (4294967296 : Nat) = 256 ^ (at' % 4 + 1) * 256 ^ (3 - at' % 4) := by rw [← Nat.pow_add, show at' % 4 + 1 + (3 - at' % 4) = 4 by omega]
    rw [e3, Nat.mod_mul_right_mod]; exact Nat.mul_mod_left _ _
   have ho := or_byte (w.getD (at' / 4) 0) (b.getD i 0) (at' % 4) (by omega) hz
   have hV := V_set w (at' / 4) (w.getD (at' / 4) 0 ||| shl32 (b.getD i 0).toUInt32 ((8 * (at' % 4) : Nat) : Int)) hk
   generalize w.getD (at' / 4) 0 ||| shl32 (b.getD i 0).toUInt32 ((8 * (at' % 4) : Nat) : Int) = o at *
   refine ih (i + 1) fu _ (by omega) (by omega) (by rw [List.length_set]; exact hw) ?_
   have e4 : b.take (i + 1) = b.take i ++ [b.getD i 0] := by
    rw [List.take_succ_eq_append_getElem (by omega), List.getD_eq_getElem?_getD, List.getElem?_eq_getElem (by omega)]; rfl
   have e5 : 256 ^ (b.length - i) = 256 * 256 ^ at' := by rw [show b.length - i = at' + 1 by omega, Nat.pow_succ, Nat.mul_comm]
   have e6 : (256 : Nat) ^ at' = 4294967296 ^ (at' / 4) * 256 ^ (at' % 4) := by rw [hpw, ← Nat.pow_add]; congr 1; omega
   rw [e4, nB_snoc, show b.length - (i + 1) = at' by omega]
   rw [e5] at hv
   have : nV (w.set (at' / 4) o) = nV w + 256 ^ at' * (b.getD i 0).toNat := by
    rw [ho, Nat.mul_add, ← Nat.mul_assoc, ← e6] at hV
    omega
   rw [this, hv]; grind
theorem D_len_dB (v : Nat) : (nD v).length = ((dB v).length + 3) / 4 := by
 have h : ∀ k, (nD v).length ≤ k ↔ (dB v).length ≤ 4 * k := fun k => by rw [D_len, dB_len, Nat.pow_mul]
 have h2 := (h (((dB v).length + 3) / 4)).2 (by omega)
 have h3 := (h (nD v).length).1 (Nat.le_refl _)
 omega
theorem pRead_l2_is {n : Nat} (hn : 18446744073709551616 ≤ n) (v : Nat) : ∀ (m fu : Nat) (l : List UInt8), l.length = m → m < fu → l.length ≤ 100000 → nB l = v →
  pRead_l2 n fu l l.length = some (if 256 < (dB v).length then ([], 0, some 4) else (nD v, (nD v).length, none)) := by
 have fin : ∀ (l : List UInt8), l.length ≤ 100000 → nB l = v → (l = [] ∨ (l.getD 0 0).toNat ≠ 0) → pRead_j1 n l l.length = some (if 256 < (dB v).length then ([], 0, some 4) else (nD v, (nD v).length, none)) := by
  intro l hl hv h0
  have hd := dB_of h0
  rw [hv] at hd
  unfold pRead_j1
  by_cases h256 : 256 < l.length
  ·rw [ite_t (by simp; omega), hd, if_pos h256]
  ·have t0 : Int.tdiv (((l.length : Nat) : Int) + 3) 4 = (((l.length + 3) / 4 : Nat) : Int) := by rw [Int.tdiv_eq_ediv_of_nonneg (by omega)]; omega
   rw [ite_f (by simp; omega), hd, if_neg h256, t0, Int.toNat_natCast, gd_pos (okI64 (by omega) (by omega)), gd_pos (by decide), gd_pos (okI64 (by omega) (by omega)), gd_pos (by omega), gd_pos (by trivial), gd_pos (by unfold rmB; omega)]
   obtain ⟨r, h1, h2, h3⟩ := pRead_l1_is n l (by omega) l.length 0 n (List.replicate ((l.length + 3) / 4) 0) (by omega) (by omega) (by simp) (by rw [V_rep]; simp [nB_nil])
   have hlen : (nD v).length = (l.length + 3) / 4 := by rw [D_len_dB, hd]
   have hr : r = nD v := V_inj (by rw [h2, hlen]) (by rw [h3, V_D, hv])
   rw [hr] at h1
   rw [hlen]
   exact h1
 intro m
 induction m with
 | zero =>
  intro fu l hl hf h8 hv
  cases fu with
  | zero => omega
  | succ fu =>
   obtain rfl := List.eq_nil_of_length_eq_zero hl
   rw [pRead_l2, ite_f (by simp)]
   exact fin [] h8 hv (.inl rfl)
 | succ m ih =>
  intro fu l hl hf h8 hv
  cases fu with
  | zero => omega
  | succ fu =>
   match l, hl with
   | x :: l, hl =>
    rw [pRead_l2, ite_t (by simp <;> omega), gd_pos (by omega), gd_pos (by simp <;> omega)]
    simp only [List.getD_cons_zero]
    by_cases hx : x = 0
    ·rw [ite_t (by rw [hx]; rfl), gd_pos (by omega), gd_pos (by simp; omega)]
     have e : ((x :: l).drop 1).take ((x :: l).length - 1) = l := by simp
     rw [e, show (x :: l).length - 1 = l.length by simp]
     exact ih fu l (by simpa using hl) (by omega) (by simp at h8; omega) (by rw [← hv, nB_cons, hx]; simp)
    ·rw [ite_f (by simp only [beq_eq_false_iff_ne]; exact hx)]
     exact fin (x :: l) h8 hv (.inr (by simp only [List.getD_cons_zero]; exact fun h => hx (UInt8.toNat_inj.1 h)))
theorem pRead_is {n : Nat} (hn : 18446744073709551616 ≤ n) {l : List UInt8} (hl : l.length ≤ 100000) : pRead n l = some (if 256 < (dB (nB l)).length then ([], 0, some 4) else (nD (nB l), (nD (nB l)).length, none)) :=
 pRead_l2_is hn (nB l) l.length n l rfl (by omega) hl rfl
theorem pReadBig_is {n : Nat} (hn : 18446744073709551616 ≤ n) {l : List UInt8} (hl : l.length ≤ 100000) : pReadBig n l = some (if l = [] ∨ 128 ≤ (l.getD 0 0).toNat ∨ (2 ≤ l.length ∧ spare l = true) then ([], 0, some 2) else if 256 < (dB (nB l)).length then ([], 0, some 4) else (nD (nB l), (nD (nB l)).length, none)) := by
 unfold pReadBig
 by_cases h0 : l = []
 ·rw [ite_t (by rw [h0]; rfl), if_pos (.inl h0)]
 ·have hlp := List.length_pos_iff.2 h0
  rw [ite_f (by simp only [beq_eq_false_iff_ne]; omega), gd_pos (by omega), gd_pos (by omega)]
  by_cases h1 : 128 ≤ (l.getD 0 0).toNat
  ·rw [ite_t (by simp only [decide_eq_true_eq, UInt8.le_iff_toNat_le]; exact h1), if_pos (.inr (.inl h1))]
  ·rw [ite_f (by simp only [decide_eq_false_iff_not, UInt8.le_iff_toNat_le]; exact h1)]
   by_cases h2 : 2 ≤ l.length
   ·rw [ite_t (by simp; omega), pspare_is n h2, Option.bind_some]
    cases hs : spare l with
    | true => rw [ite_t rfl, if_pos (.inr (.inr ⟨h2, rfl⟩))]
    | false => rw [ite_f rfl, if_neg (by simp only [not_or]; exact ⟨h0, h1, fun h => by cases h.2⟩), pRead_is hn hl]; split <;> rfl
   ·rw [ite_f (by simp; omega), if_neg (by simp only [not_or]; exact ⟨h0, h1, fun h => h2 h.1⟩), pRead_is hn hl]; split <;> rfl
def NB : Nat := 4294967296 ^ 3
theorem NB_ok : 18446744073709551616 ≤ NB := by decide
theorem upB : pup NB = some true := by decide +kernel
theorem mul_pow_lt {p x y c d : Nat} (hc : c < p) (h : x < y) : c + p * x < d + p * y := by
 have : p * (x + 1) ≤ p * y := Nat.mul_le_mul_left p h
 rw [Nat.mul_add] at this; omega
def cmpN (x y : Nat) : Int := if x < y then -1 else if y < x then 1 else 0
theorem cmpN_lt {x y : Nat} (h : x < y) : cmpN x y = -1 := if_pos h
theorem cmpN_gt {x y : Nat} (h : y < x) : cmpN x y = 1 := by unfold cmpN; rw [if_neg (by omega), if_pos h]
theorem cmpN_eq {x y : Nat} (h : x = y) : cmpN x y = 0 := by unfold cmpN; rw [if_neg (by omega), if_neg (by omega)]
theorem rCmp_l1_is (n : Nat) (u v : List Int) (hu : Dz u) (hv : Dz v) (lu : Nat) (h1 : u.length = lu) (h2 : v.length = lu) (hlu : lu ≤ 1000000) : ∀ (j fu : Nat), j < fu → j ≤ lu → nZ (u.drop j) = nZ (v.drop j) →
  rCmp_l1 n u v fu ((j : Int) - 1) = some (cmpN (nZ u) (nZ v)) := by
 intro j
 induction j with
 | zero =>
  intro fu hf _ he
  cases fu with
  | zero => omega
  | succ fu => rw [rCmp_l1, ite_f (by simp), cmpN_eq (by simpa using he)]
 | succ j ih =>
  intro fu hf hj he
  cases fu with
  | zero => omega
  | succ fu =>
   have e : (((j + 1 : Nat) : Int) - 1) = (j : Int) := by omega
   have e1 := Z_drop u j (by omega)
   have e2 := Z_drop v j (by omega)
   have s1 := Z_split u j
   have s2 := Z_split v j
   have l1 := Z_lt (hu.take j)
   have l2 := Z_lt (hv.take j)
   have m1 : (u.take j).length = j := by simp; omega
   have m2 : (v.take j).length = j := by simp; omega
   have g1 := hu.get j
   have g2 := hv.get j
   rw [m1] at l1; rw [m2] at l2
   rw [e, rCmp_l1, ite_t (by simp), gd_pos (by omega), gd_pos (by omega), gd_pos (by omega), gd_pos (by omega)]
   simp only [Int.toNat_natCast]
   by_cases hne : u.getD j 0 = v.getD j 0
   ·rw [ite_f (by rw [hne]; simp), gd_pos (okI64 (by omega) (by omega))]
    exact ih fu (by omega) (by omega) (by rw [e1, e2, hne, he])
   ·rw [ite_t (by simp only [bne_iff_ne]; exact hne), gd_pos (by omega), gd_pos (by omega), gd_pos (by omega), gd_pos (by omega)]
    by_cases hlt : u.getD j 0 < v.getD j 0
    ·rw [ite_t (by simp only [decide_eq_true_eq]; exact hlt), cmpN_lt]
     rw [s1, s2]
     exact mul_pow_lt l1 (by omega)
    ·rw [ite_f (by simp only [decide_eq_false_iff_not]; exact hlt), cmpN_gt]
     rw [s1, s2]
     exact mul_pow_lt l2 (by omega)
theorem rCmp_is {n : Nat} (hn : 18446744073709551616 ≤ n) {x y : Nat} (ha : (nE x).length ≤ 1000000) (hb : (nE y).length ≤ 1000000) : rCmp n (nE x) (nE y) = some (cmpN x y) := by
 unfold rCmp
 by_cases h : (nE x).length < (nE y).length
 ·rw [ite_t (by simp <;> omega), ite_t (by simp <;> omega), cmpN_lt]
  refine Nat.lt_of_not_le fun h' => ?_
  have := E_mono h'; omega
 ·by_cases h' : (nE y).length < (nE x).length
  ·rw [ite_t (by simp <;> omega), ite_f (by simp <;> omega), cmpN_gt]
   refine Nat.lt_of_not_le fun h' => ?_
   have := E_mono h'; omega
  ·rw [ite_f (by simp <;> omega), gd_pos (okI64 (by omega) (by omega))]
   have hl : (nE y).length = (nE x).length := by omega
   have := rCmp_l1_is n (nE x) (nE y) (E_dz x) (E_dz y) (nE x).length rfl hl (by omega) (nE x).length n (by omega) (by omega) (by
    rw [List.drop_of_length_le (by omega), List.drop_of_length_le (by omega)])
   rw [Z_E, Z_E] at this
   exact this
end Go.Sx
end
section
namespace Go.Sx
open Go Go.RowKit Go.Ch Go.Proofs.Ytliilihbnhdemaa
def vI (s : Int) (l : List UInt8) : Int := l.foldl (fun a x => a * 256 + (x.toNat : Int)) s
theorem vI_nil (s : Int) : vI s [] = s := rfl
theorem vI_cons (s : Int) (x : UInt8) (l : List UInt8) : vI s (x :: l) = vI (s * 256 + (x.toNat : Int)) l := rfl
theorem vI_snoc (s : Int) (l : List UInt8) (x : UInt8) : vI s (l ++ [x]) = vI s l * 256 + (x.toNat : Int) := by simp [vI]
def sg (l : List UInt8) : Int := if 128 ≤ (l.getD 0 0).toNat then -1 else 0
def val8 (l : List UInt8) : Int := vI (sg l) l
theorem vI_bound (l : List UInt8) : ∀ s : Int, s * 256 ^ l.length ≤ vI s l ∧ vI s l < (s + 1) * 256 ^ l.length := by
 induction l with
 | nil => intro s; simp [vI_nil]; omega
 | cons x l ih =>
  intro s
  obtain ⟨h1, h2⟩ := ih (s * 256 + (x.toNat : Int))
  have hx := u8_lt x
  rw [vI_cons, List.length_cons]
  have hp : (0 : Int) < 256 ^ l.length := Int.pow_pos (by decide)
  have e : (256 : Int) ^ (l.length + 1) = 256 * 256 ^ l.length := by rw [Int.pow_succ, Int.mul_comm]
  rw [e]
  generalize (256 : Int) ^ l.length = p at *
  generalize vI (s * 256 + (x.toNat : Int)) l = v at *
  generalize hxx : (x.toNat : Int) = y at *
  have k1 : s * (256 * p) + y * p = (s * 256 + y) * p := by grind
  have k2 : (s * 256 + y + 1) * p = s * (256 * p) + (y + 1) * p := by grind
  have k3 : (s + 1) * (256 * p) = s * (256 * p) + 256 * p := by grind
  have k4 : 0 ≤ y * p := Int.mul_nonneg (by omega) (by omega)
  have k5 : (y + 1) * p ≤ 256 * p := Int.mul_le_mul_of_nonneg_right (by omega) (by omega)
  omega
theorem sg_bound (l : List UInt8) : -1 ≤ sg l ∧ sg l ≤ 0 := by unfold sg; split <;> omega
theorem pow256 {k : Nat} (h : k ≤ 7) : (256 : Int) ^ k ≤ 72057594037927936 ∧ 0 < (256 : Int) ^ k := by
 refine ⟨?_, Int.pow_pos (by decide)⟩
 have : (256 : Nat) ^ k ≤ 256 ^ 7 := Nat.pow_le_pow_right (by decide) h
 have e : ((256 ^ k : Nat) : Int) = (256 : Int) ^ k := Int.natCast_pow 256 k
 rw [← e]; omega
theorem vI_small {s : Int} {l : List UInt8} (hs : -128 ≤ s ∧ s < 128) (hl : l.length ≤ 7) : -9223372036854775808 ≤ vI s l ∧ vI s l < 9223372036854775808 := by
 obtain ⟨h1, h2⟩ := vI_bound l s
 obtain ⟨h3, h4⟩ := pow256 hl
 have k1 : -128 * 256 ^ l.length ≤ s * 256 ^ l.length := Int.mul_le_mul_of_nonneg_right (by omega) (by omega)
 have k2 : (s + 1) * 256 ^ l.length ≤ 128 * 256 ^ l.length := Int.mul_le_mul_of_nonneg_right (by omega) (by omega)
 generalize (256 : Int) ^ l.length = p at *
 omega
theorem val_spare {x y : UInt8} {l : List UInt8} (h : spare (x :: y :: l) = true) : val8 (x :: y :: l) = val8 (y :: l) := by
 unfold spare at h
 simp only [List.getD_cons_zero, List.getD_cons_succ, Bool.or_eq_true, Bool.and_eq_true, beq_iff_eq, decide_eq_true_eq] at h
 unfold val8 sg
 simp only [List.getD_cons_zero]
 rcases h with ⟨h1, h2⟩ | ⟨h1, h2⟩
 ·rw [if_neg (by omega), if_neg (by omega), vI_cons, h1]; rfl
 ·rw [if_pos (by omega), if_pos (by omega), vI_cons, h1]; rfl
theorem pInt_l2_is (n : Nat) (v : Int) : ∀ (m fu : Nat) (l : List UInt8), l.length = m + 1 → m < fu → l.length ≤ 8 → val8 l = v →
  ∃ r : List UInt8, pInt_l2 n fu l l.length = some r ∧ r ≠ [] ∧ r.length ≤ 8 ∧ val8 r = v ∧ (decide (2 ≤ r.length) && spare r) = false := by
 intro m
 induction m with
 | zero =>
  intro fu l hl hf h8 hv
  cases fu with
  | zero => omega
  | succ fu =>
   refine ⟨l, ?_, fun h => by rw [h] at hl; simp at hl, h8, hv, by simp; omega⟩
   rw [pInt_l2, ite_f (by simp <;> omega)]
   unfold pInt_j1
   rw [gd_pos (by omega)]
 | succ m ih =>
  intro fu l hl hf h8 hv
  cases fu with
  | zero => omega
  | succ fu =>
   match l, hl with
   | x :: y :: l, hl =>
    rw [pInt_l2, ite_t (by simp <;> omega), pspare_is n (by simp), Option.bind_some]
    cases hs : spare (x :: y :: l) with
    | true =>
     rw [ite_t rfl, gd_pos (by omega), gd_pos (by simp; omega)]
     have e : ((x :: y :: l).drop 1).take ((x :: y :: l).length - 1) = y :: l := by simp
     rw [e, show (x :: y :: l).length - 1 = (y :: l).length by simp]
     exact ih fu (y :: l) (by simpa using hl) (by omega) (by simp at h8 ⊢; omega) (by rw [← val_spare hs]; exact hv)
    | false =>
     refine ⟨x :: y :: l, ?_, by simp, h8, hv, by rw [hs, Bool.and_false]⟩
     rw [ite_f rfl]
     unfold pInt_j1
     rw [gd_pos (by omega)]
theorem ofInt8 (t : Int) : (UInt8.ofInt t).toNat = (t % 256).toNat := by
 simp [UInt8.ofInt]; omega
theorem shr_shr (a : Int) (j : Nat) : a / 2 ^ (8 * j) = a / 2 ^ (8 * (j + 1)) * 256 + (a / 2 ^ (8 * j) % 256) := by
 have e : (2 : Int) ^ (8 * (j + 1)) = 2 ^ (8 * j) * 256 := by rw [show 8 * (j + 1) = 8 * j + 8 by omega, Int.pow_add]; rfl
 rw [e, ← Int.ediv_ediv_of_nonneg (Int.le_of_lt (Int.pow_pos (by decide)))]
 omega
theorem pInt_l1_is {n : Nat} (hn : 100 ≤ n) (a : Int) (h1 : -9223372036854775808 ≤ a) (h2 : a < 9223372036854775808) : ∀ (j fu : Nat) (l : List UInt8), j < fu → l.length + j = 8 → vI (a / 2 ^ 64) l = a / 2 ^ (8 * j) → (l = [] ∨ sg l = a / 2 ^ 64) →
  ∃ r : List UInt8, pInt_l1 n a fu l (8 * (j : Int) - 8) = some r ∧ r ≠ [] ∧ r.length ≤ 8 ∧ val8 r = a ∧ (decide (2 ≤ r.length) && spare r) = false := by
 intro j
 induction j with
 | zero =>
  intro fu l hf hl hv hs
  cases fu with
  | zero => omega
  | succ fu =>
   rw [pInt_l1, ite_f (by simp)]
   rcases hs with rfl | hs
   ·simp at hl
   ·refine pInt_l2_is n a 7 n l (by omega) (by omega) (by omega) ?_
    unfold val8
    rw [hs, hv]; simp
 | succ j ih =>
  intro fu l hf hl hv hs
  cases fu with
  | zero => omega
  | succ fu =>
   have e1 : 8 * ((j + 1 : Nat) : Int) - 8 = ((8 * j : Nat) : Int) := by omega
   have e2 : ((8 * j : Nat) : Int) - 8 = 8 * (j : Int) - 8 := by omega
   rw [e1, pInt_l1, ite_t (by simp <;> omega), gd_pos (by omega), gd_pos (by show _ ≤ ((64 : Nat) : Int); omega), gd_pos (by unfold rmB; omega), gd_pos (okI64 (by omega) (by omega)), Int.toNat_natCast, e2]
   have hb : (((UInt8.ofInt (a / 2 ^ (8 * j))).toNat : Nat) : Int) = a / 2 ^ (8 * j) % 256 := by rw [ofInt8]; omega
   refine ih fu _ (by omega) (by simp; omega) (by rw [vI_snoc, hv, hb]; exact (shr_shr a j).symm) (.inr ?_)
   rcases hs with rfl | hs
   ·have hj : j = 7 := by simp at hl; omega
    subst hj
    unfold sg
    simp only [List.nil_append, List.getD_cons_zero]
    have := hb
    split <;> omega
   ·rw [← hs]
    unfold sg
    cases l with
    | nil =>
     unfold sg at hs
     simp at hs
     have hj : j = 7 := by simp at hl; omega
     subst hj
     simp only [List.nil_append, List.getD_cons_zero, List.getD_nil]
     have := hb
     split <;> simp <;> omega
    | cons x l => simp
theorem pInt_is {n : Nat} (hn : 100 ≤ n) {a : Int} (h1 : -9223372036854775808 ≤ a) (h2 : a < 9223372036854775808) :
  ∃ r : List UInt8, pInt n a = some r ∧ r ≠ [] ∧ r.length ≤ 8 ∧ val8 r = a ∧ (decide (2 ≤ r.length) && spare r) = false :=
 pInt_l1_is hn a h1 h2 8 n [] (by omega) rfl rfl (.inl rfl)
theorem bor8 {i : Int} {x : Nat} (hx : x < 256) (h1 : -9223372036854775808 ≤ i * 256) (h2 : i * 256 + x < 9223372036854775808) : bitI .or .i64 (i * 2 ^ 8) (x : Int) = i * 256 + x := by
 have e : (i * 2 ^ 8 : Int) = i * 256 := by rfl
 rw [e]
 unfold bitI
 show IntKind.i64.wrap (((BitVec.ofInt 64 (i * 256) ||| BitVec.ofInt 64 (x : Int)).toNat : Nat) : Int) = _
 have hX : (BitVec.ofInt 64 (x : Int)).toNat = x := by rw [BitVec.toNat_ofInt]; omega
 have hI : (BitVec.ofInt 64 (i * 256)).toNat = (i % 2 ^ 56).toNat * 256 := by rw [BitVec.toNat_ofInt]; omega
 have ho : (BitVec.ofInt 64 (i * 256) ||| BitVec.ofInt 64 (x : Int)).toNat = (i % 2 ^ 56).toNat * 256 + x := by
  rw [BitVec.toNat_or, hX, hI]
  have := Nat.shiftLeft_add_eq_or_of_lt (i := 8) (show x < 2 ^ 8 from hx) (i % 2 ^ 56).toNat
  rw [Nat.shiftLeft_eq] at this
  exact this.symm
 rw [ho]
 unfold IntKind.wrap
 simp [IntKind.bits, IntKind.signed]
 omega
theorem readInt_l (f : Nat → Int → Int → Option (Int × Option Int)) (a : List UInt8) (ha : a.length ≤ 8) (h0 : a ≠ []) (s : Int) (hs : -128 ≤ s ∧ s < 128)
  (hf : ∀ fu i j, f (fu + 1) i j = bif (decide (j < (((a.length - 1) : Nat) : Int))) then
   gd (0 ≤ j) <|
   gd (j < (((a.length - 1) : Nat) : Int)) <|
   gd (0 ≤ (8 : Int)) <|
   gd ((8 : Int) ≤ (((IntKind.i64).bits : Nat) : Int)) <|
   gd (okI .i64 (i * 2 ^ 8)) <|
   gd (okI .i64 (j + 1)) <|
   (f fu) (bitI .or .i64 (i * 2 ^ 8) (((((a.drop 1).take (a.length - 1)).getD j.toNat 0).toNat : Nat) : Int)) (j + 1)
  else
   some (i, none)) : ∀ (m i fu : Nat), i + m = a.length - 1 → m < fu → f fu (vI s ((a.drop 1).take i)) (i : Int) = some (vI s (a.drop 1), none) := by
 have hl := List.length_pos_iff.2 h0
 intro m
 induction m with
 | zero =>
  intro i fu hi hfu
  cases fu with
  | zero => omega
  | succ fu => rw [hf, ite_f (by simp <;> omega), List.take_of_length_le (by simp; omega)]
 | succ m ih =>
  intro i fu hi hfu
  cases fu with
  | zero => omega
  | succ fu =>
   have hlen : (a.drop 1).length = a.length - 1 := by simp
   have e0 : (a.drop 1).take (a.length - 1) = a.drop 1 := List.take_of_length_le (by simp)
   have e1 : (a.drop 1).take (i + 1) = (a.drop 1).take i ++ [(a.drop 1).getD i 0] := by
    rw [List.take_succ_eq_append_getElem (by omega), List.getD_eq_getElem?_getD, List.getElem?_eq_getElem (by omega)]; rfl
   have e2 : vI s ((a.drop 1).take (i + 1)) = vI s ((a.drop 1).take i) * 256 + (((a.drop 1).getD i 0).toNat : Int) := by rw [e1, vI_snoc]
   have hx := u8_lt ((a.drop 1).getD i 0)
   have hb := vI_small (s := s) (l := (a.drop 1).take (i + 1)) hs (by simp; omega)
   have hb0 := vI_small (s := s) (l := (a.drop 1).take i) hs (by simp; omega)
   rw [hf, ite_t (by simp <;> omega), Int.toNat_natCast, e0, gd_pos (by omega), gd_pos (by omega), gd_pos (by omega), gd_pos (by show (8 : Int) ≤ ((64 : Nat) : Int); omega), gd_pos (okI64 (by omega) (by omega)), gd_pos (okI64 (by omega) (by omega)), bor8 hx (by omega) (by omega), ← e2]
   exact ih (i + 1) fu (by omega) (by omega)
theorem pReadInt_is {n : Nat} (hn : 100 ≤ n) (a : List UInt8) : pReadInt n a = some (if a = [] ∨ (2 ≤ a.length ∧ spare a = true) then (0, some 2) else if 8 < a.length then (0, some 4) else (val8 a, none)) := by
 unfold pReadInt
 by_cases h0 : a = []
 ·rw [ite_t (by rw [h0]; rfl), if_pos (.inl h0)]
 ·have hl := List.length_pos_iff.2 h0
  have hx := u8_lt (a.getD 0 0)
  have hw : IntKind.i8.wrap (((a.getD 0 0).toNat : Nat) : Int) = sg a * 256 + ((a.getD 0 0).toNat : Int) := by
   unfold sg IntKind.wrap
   simp only [IntKind.bits, IntKind.signed, Bool.true_and, decide_eq_true_eq, show (2 : Int) ^ 8 = 256 from rfl, show (2 : Int) ^ (8 - 1) = 128 from rfl]
   split <;> split <;> omega
  have hwb : -128 ≤ sg a * 256 + ((a.getD 0 0).toNat : Int) ∧ sg a * 256 + ((a.getD 0 0).toNat : Int) < 128 := by unfold sg; split <;> omega
  have hval : vI (sg a * 256 + ((a.getD 0 0).toNat : Int)) (a.drop 1) = val8 a := by
   cases a with
   | nil => exact absurd rfl h0
   | cons x l => rfl
  rw [ite_f (by simp <;> omega)]
  by_cases h1 : 2 ≤ a.length
  ·rw [ite_t (by simp <;> omega), pspare_is n h1, Option.bind_some]
   cases hs : spare a with
   | true => rw [ite_t rfl, if_pos (.inr ⟨h1, rfl⟩)]
   | false =>
    rw [ite_f rfl, if_neg (by simp [h0])]
    by_cases h8 : 8 < a.length
    ·rw [ite_t (by simp <;> omega), if_pos h8]
    ·rw [ite_f (by simp <;> omega), if_neg h8, hw, gd_pos (by omega), gd_pos (by omega), gd_pos (okI64 (by omega) (by omega)), gd_pos (by omega), gd_pos (by omega), ← hval]
     exact readInt_l (pReadInt_l1 n a) a (by omega) h0 _ hwb (fun _ _ _ => rfl) (a.length - 1) 0 n (by omega) (by omega)
  ·rw [ite_f (by simp <;> omega), if_neg (by simp [h0]; omega)]
   rw [ite_f (by simp <;> omega), if_neg (by omega), hw, gd_pos (by omega), gd_pos (by omega), gd_pos (okI64 (by omega) (by omega)), gd_pos (by omega), gd_pos (by omega), ← hval]
   exact readInt_l (pReadInt_l2 n a) a (by omega) h0 _ hwb (fun _ _ _ => rfl) (a.length - 1) 0 n (by omega) (by omega)
def bitsOk (b : List UInt8) (k : Int) : Bool := if 0 ≤ k ∧ k ≤ 7 ∧ b ≠ [] then (b.getD (b.length - 1) 0).toNat % 2 ^ k.toNat == 0 else k == 0
theorem mask_all : ∀ (i : Fin 256) (k : Fin 8), ((UInt8.ofNat i.val &&& (shl8 1 (k.val : Int) - 1)) == 0) = (i.val % 2 ^ k.val == 0) := by decide +kernel
theorem mask_is (x : UInt8) (k : Nat) (hk : k ≤ 7) : ((x &&& (shl8 1 (k : Int) - 1)) == 0) = (x.toNat % 2 ^ k == 0) := by
 have := mask_all ⟨x.toNat, x.toNat_lt⟩ ⟨k, by omega⟩
 simpa using this
theorem pfits_is (n : Nat) (b : List UInt8) (k : Int) (hb : b.length ≤ 1000000) : pfits n b k = some (bitsOk b k) := by
 unfold pfits bitsOk
 by_cases h1 : k < 0
 ·rw [ite_t (decide_eq_true h1), if_neg (by omega)]
 ·rw [ite_f (decide_eq_false h1)]
  by_cases h2 : 7 < k
  ·rw [ite_t (decide_eq_true h2), if_neg (by omega)]
  ·rw [ite_f (decide_eq_false h2)]
   cases b with
   | nil => rw [ite_t (by rfl), if_neg (by simp)]
   | cons x l =>
    rw [ite_f (by simp; omega), gd_pos (okI64 (by omega) (by omega)), gd_pos (by simp only [List.length_cons]; omega), gd_pos (by omega), gd_pos (by omega), if_pos ⟨by omega, by omega, by simp⟩]
    have e : (((((x :: l).length : Nat) : Int) - 1).toNat) = (x :: l).length - 1 := by omega
    rw [e]
    obtain ⟨q, rfl⟩ := Int.eq_ofNat_of_zero_le (show 0 ≤ k by omega)
    rw [mask_is _ q (by omega)]; rfl
theorem pBits_is (n : Nat) (b : List UInt8) (k : Int) (hb : b.length ≤ 1000000) : pBits n b k = some (if bitsOk b k then ([UInt8.ofInt k] ++ b, none) else ([], some 1)) := by
 unfold pBits
 rw [pfits_is n b k hb, Option.bind_some]
 cases bitsOk b k with
 | true => rw [ite_f (by rfl), gd_pos (by unfold rmB; omega)]; rfl
 | false => rw [ite_t (by rfl)]; rfl
theorem pReadBits_is (n : Nat) (a : List UInt8) (ha : a.length ≤ 1000000) (h : a.length ≠ 0) : pReadBits n a = some (if bitsOk ((a.drop 1).take (a.length - 1)) (((a.getD 0 0).toNat : Nat) : Int) then ((a.drop 1).take (a.length - 1), (((a.getD 0 0).toNat : Nat) : Int), none) else ([], 0, some 2)) := by
 unfold pReadBits
 rw [ite_f (by simp only [beq_eq_false_iff_ne]; omega), gd_pos (by omega), gd_pos (by omega), gd_pos (by simp; omega), gd_pos (by omega), gd_pos (by omega), pfits_is n _ _ (by simp; omega), Option.bind_some]
 cases bitsOk ((a.drop 1).take (a.length - 1)) (((a.getD 0 0).toNat : Nat) : Int) with
 | true => rw [ite_f (by rfl)]; rfl
 | false => rw [ite_t (by rfl)]; rfl
def cnt : Nat → Nat → List UInt8
 | 0, _ => []
 | f + 1, m => if m = 0 then [] else cnt f (m / 128) ++ [UInt8.ofNat (m % 128 + 128)]
def gN (m : Nat) : List UInt8 := cnt 5 (m / 128) ++ [UInt8.ofNat (m % 128)]
theorem cnt_0 (f : Nat) : cnt f 0 = [] := by cases f <;> simp [cnt]
theorem cnt_up : ∀ (f m : Nat), m < 128 ^ f → cnt (f + 1) m = cnt f m
 | 0, m, h => by
  obtain rfl : m = 0 := by simpa using h
  rfl
 | f + 1, m, h => by
  rw [cnt]
  conv => rhs; rw [cnt]
  by_cases h0 : m = 0
  ·rw [if_pos h0, if_pos h0]
  ·rw [if_neg h0, if_neg h0, cnt_up f (m / 128) (Nat.div_lt_of_lt_mul (by rw [Nat.pow_succ] at h; omega))]
theorem cnt_step {m d : Nat} (h0 : 0 < m) (hd : d < 128) (h : m * 128 + d < 4294967296) : cnt 5 (m * 128 + d) = cnt 5 m ++ [UInt8.ofNat (d + 128)] := by
 rw [cnt, if_neg (by omega), show (m * 128 + d) / 128 = m by omega, show (m * 128 + d) % 128 = d by omega, cnt_up 4 m (by omega)]
theorem cnt_small {d : Nat} (h0 : 0 < d) (hd : d < 128) : cnt 5 d = [UInt8.ofNat (d + 128)] := by
 rw [cnt, if_neg (by omega), show d / 128 = 0 by omega, show d % 128 = d by omega, cnt_0]; rfl
theorem gN_step {m d : Nat} (hd : d < 128) : gN (m * 128 + d) = cnt 5 m ++ [UInt8.ofNat d] := by
 unfold gN; rw [show (m * 128 + d) / 128 = m by omega, show (m * 128 + d) % 128 = d by omega]
theorem cnt_len : ∀ (f m : Nat), (cnt f m).length ≤ f
 | 0, _ => Nat.le_refl _
 | f + 1, m => by
  rw [cnt]; split
  ·simp
  ·have := cnt_len f (m / 128); simp; omega
theorem or128 : ∀ k : Fin 128, (UInt8.ofNat k.1 ||| 128) = UInt8.ofNat (k.1 + 128) := by decide
theorem low7 (n : UInt32) : (n &&& 127).toUInt8 = UInt8.ofNat (n.toNat % 128) := by
 apply UInt8.toNat_inj.1
 rw [UInt32.toNat_toUInt8, UInt32.toNat_and, show (127 : UInt32).toNat = 2 ^ 7 - 1 from rfl, Nat.and_two_pow_sub_one_eq_mod]
 simp
theorem shr7n (n : UInt32) : (n >>> 7).toNat = n.toNat / 128 := by
 rw [UInt32.toNat_shiftRight, show (7 : UInt32).toNat % 32 = 7 from rfl, Nat.shiftRight_eq_div_pow]
theorem grpT_is : ∀ (f : Nat) (n : UInt32), (grpT f n).reverse = cnt f n.toNat
 | 0, _ => rfl
 | f + 1, n => by
  rw [grpT, cnt]
  by_cases h : n = 0
  ·subst h; rfl
  ·have h' : ¬ n.toNat = 0 := fun e => h (UInt32.toNat_inj.1 e)
   rw [if_neg h, if_neg h', List.reverse_cons, grpT_is f, shr7n, low7, or128 ⟨n.toNat % 128, Nat.mod_lt _ (by decide)⟩]
theorem grp_is (n : UInt32) : grp n = gN n.toNat := by
 unfold grp gN
 rw [List.reverse_cons, grpT_is, shr7n, low7]
theorem grp_len (n : UInt32) : (grp n).length ≤ 6 := by rw [grp_is]; unfold gN; have := cnt_len 5 (n.toNat / 128); simp; omega
def oidOk (l : List UInt32) : Bool := decide (2 ≤ l.length) && decide (l.length ≤ 16) && (decide (l.getD 0 0 < 2) && decide (l.getD 1 0 < 40) || l.getD 0 0 == 2 && decide ((l.getD 1 0).toNat ≤ 4294967215))
theorem u32_3 (x : UInt32) : x < 2 ∨ x = 2 ∨ 2 < x := by
 rw [UInt32.lt_iff_toNat_lt, UInt32.lt_iff_toNat_lt, ← UInt32.toNat_inj]; show x.toNat < 2 ∨ x.toNat = 2 ∨ 2 < x.toNat; omega
theorem pident_is (n : Nat) (l : List UInt32) : pident n l = some (oidOk l) := by
 unfold pident oidOk
 by_cases h1 : l.length < 2
 ·rw [ite_t (decide_eq_true (by omega)), decide_eq_false (show ¬ 2 ≤ l.length by omega)]; rfl
 ·rw [ite_f (decide_eq_false (by omega)), decide_eq_true (show 2 ≤ l.length by omega)]
  by_cases h2 : 16 < l.length
  ·rw [ite_t (decide_eq_true (by omega)), decide_eq_false (show ¬ l.length ≤ 16 by omega)]; rfl
  ·rw [ite_f (decide_eq_false (by omega)), decide_eq_true (show l.length ≤ 16 by omega), gd_pos (by omega), gd_pos (by omega)]
   rcases u32_3 (l.getD 0 0) with h | h | h
   ·have h' : ¬ 2 < l.getD 0 0 := fun h2 => UInt32.lt_irrefl _ (UInt32.lt_trans h h2)
    have h3 : (l.getD 0 0 == 2) = false := beq_eq_false_iff_ne.2 fun e => UInt32.lt_irrefl _ (e ▸ h)
    rw [ite_f (decide_eq_false h'), gd_pos (by omega), gd_pos (by omega), ite_t (decide_eq_true h), gd_pos (by omega), gd_pos (by omega), decide_eq_true h, h3]; simp
   ·rw [h, ite_f (by decide), gd_pos (by omega), gd_pos (by omega), ite_f (by decide), gd_pos (by omega), gd_pos (by omega)]
    have e : (((l.getD 1 0).toUInt64 + 80 : UInt64) < 4294967296) ↔ (l.getD 1 0).toNat ≤ 4294967215 := by
     rw [UInt64.lt_iff_toNat_lt, UInt64.toNat_add, UInt32.toNat_toUInt64]
     have := (l.getD 1 0).toNat_lt
     show ((l.getD 1 0).toNat + 80) % 2 ^ 64 < 4294967296 ↔ _
     omega
    rw [show (decide (((l.getD 1 0).toUInt64 + 80 : UInt64) < 4294967296)) = decide ((l.getD 1 0).toNat ≤ 4294967215) from decide_eq_decide.2 e]
    simp
   ·have h' : ¬ l.getD 0 0 < 2 := fun h2 => UInt32.lt_irrefl _ (UInt32.lt_trans h h2)
    have h3 : (l.getD 0 0 == 2) = false := beq_eq_false_iff_ne.2 fun e => UInt32.lt_irrefl _ (e ▸ h)
    rw [ite_t (decide_eq_true h), decide_eq_false h', h3]; rfl
theorem oidOk_len {l : List UInt32} (h : oidOk l = true) : 2 ≤ l.length ∧ l.length ≤ 16 := by
 unfold oidOk at h
 simp only [Bool.and_eq_true, decide_eq_true_eq] at h
 exact ⟨h.1.1, h.1.2⟩
def grps (l : List UInt32) : List UInt8 := (l.map grp).flatten
theorem grps_cons (x : UInt32) (l : List UInt32) : grps (x :: l) = grp x ++ grps l := rfl
theorem grps_len : ∀ l : List UInt32, (grps l).length ≤ 6 * l.length
 | [] => Nat.le_refl _
 | x :: l => by rw [grps_cons, List.length_append, List.length_cons]; have := grp_len x; have := grps_len l; omega
def bodyOf (l : List UInt32) : List UInt8 := grp (40 * l.getD 0 0 + l.getD 1 0) ++ grps (l.drop 2)
theorem drop_at {α : Type} {l : List α} {i : Nat} {z : α} (h : i < l.length) : l.drop i = l.getD i z :: l.drop (i + 1) := by
 rw [List.drop_eq_getElem_cons h, List.getD_eq_getElem?_getD, List.getElem?_eq_getElem h]; rfl
theorem pOid_l1_is (n : Nat) (l : List UInt32) (hl : 2 ≤ l.length) (h16 : l.length ≤ 16) : ∀ (m i fu : Nat) (acc : List UInt8), i + m = l.length - 2 → m < fu → acc.length ≤ 1000 - 6 * m → pOid_l1 n l fu acc (i : Int) = some (acc ++ grps (l.drop (2 + i)), none) := by
 intro m
 induction m with
 | zero =>
  intro i fu acc hi hf _
  cases fu with
  | zero => omega
  | succ fu => rw [pOid_l1, ite_f (decide_eq_false (by omega)), List.drop_eq_nil_of_le (by omega)]; simp [grps]
 | succ m ih =>
  intro i fu acc hi hf ha
  cases fu with
  | zero => omega
  | succ fu =>
   have e : ((l.drop 2).take (l.length - 2)).getD i 0 = l.getD (2 + i) 0 := by
    rw [List.take_of_length_le (by simp)]
    simp [List.getD_eq_getElem?_getD]
   have hg := grp_len (l.getD (2 + i) 0)
   rw [pOid_l1, ite_t (decide_eq_true (by omega)), gd_pos (by omega), gd_pos (by omega), Int.toNat_natCast, e, gd_pos (by unfold rmB; omega), gd_pos (okI64 (by omega) (by omega))]
   have := ih (i + 1) fu (acc ++ grp (l.getD (2 + i) 0)) (by omega) (by omega) (by rw [List.length_append]; omega)
   rw [drop_at (z := 0) (show 2 + i < l.length by omega), grps_cons, ← List.append_assoc]
   exact this
theorem pOid_is {n : Nat} (hn : 100 ≤ n) (l : List UInt32) : pOid n l = some (if oidOk l then (bodyOf l, none) else ([], some 1)) := by
 unfold pOid
 rw [pident_is, Option.bind_some]
 cases h : oidOk l with
 | false => rfl
 | true =>
  obtain ⟨h2, h16⟩ := oidOk_len h
  rw [ite_f (by rfl), gd_pos (by omega), gd_pos (by omega), gd_pos (by omega), gd_pos (by omega), gd_pos (by omega), gd_pos (by omega), if_pos rfl]
  have hg := grp_len (40 * l.getD 0 0 + l.getD 1 0)
  exact pOid_l1_is n l h2 h16 (l.length - 2) 0 n _ (by omega) (by omega) (by omega)
def pRd : List UInt8 → List UInt32 → Nat → Bool → Option (List UInt32)
 | [], acc, _, bg => if bg then none else some acc
 | x :: t, acc, n, bg => if (bg = false ∧ x = 128) ∨ 16 < acc.length then none
 else if 4294967296 ≤ n * 128 + x.toNat % 128 then none
 else if x < 128 then pRd t (acc ++ [UInt32.ofNat (n * 128 + x.toNat % 128)]) 0 false else pRd t acc (n * 128 + x.toNat % 128) true
def rRd : List UInt8 → List UInt32 → Nat → List UInt32
 | [], acc, _ => acc
 | x :: t, acc, n => if x < 128 then rRd t (acc ++ [UInt32.ofNat ((n * 128 + x.toNat % 128) % 4294967296)]) 0 else rRd t acc ((n * 128 + x.toNat % 128) % 4294967296)
theorem b_hi {d : Nat} (h : d < 128) : ¬ (UInt8.ofNat (d + 128) < 128) ∧ (UInt8.ofNat (d + 128)).toNat % 128 = d ∧ (UInt8.ofNat (d + 128) = 128 ↔ d = 0) := by
 have e : (UInt8.ofNat (d + 128)).toNat = d + 128 := by simp; omega
 refine ⟨by rw [UInt8.lt_iff_toNat_lt, e]; show ¬ d + 128 < 128; omega, by rw [e]; omega, ?_⟩
 rw [← UInt8.toNat_inj, e]; show d + 128 = 128 ↔ _; omega
theorem b_lo {d : Nat} (h : d < 128) : UInt8.ofNat d < 128 ∧ (UInt8.ofNat d).toNat % 128 = d ∧ UInt8.ofNat d ≠ 128 := by
 have e : (UInt8.ofNat d).toNat = d := by simp; omega
 refine ⟨by rw [UInt8.lt_iff_toNat_lt, e]; exact h, by rw [e]; omega, fun h2 => ?_⟩
 rw [← UInt8.toNat_inj, e] at h2; revert h2; show ¬ d = 128; omega
theorem cnt_div {m : Nat} (h0 : 0 < m) (h : m < 4294967296) : cnt 5 m = cnt 5 (m / 128) ++ [UInt8.ofNat (m % 128 + 128)] := by
 have := cnt_up 4 (m / 128) (by omega)
 rw [this]
 conv => lhs; rw [cnt, if_neg (by omega)]
theorem pRd_cnt : ∀ (k m : Nat) (t : List UInt8) (acc : List UInt32), m < k → 0 < m → m < 4294967296 → acc.length ≤ 16 → pRd (cnt 5 m ++ t) acc 0 false = pRd t acc m true
 | 0, _, _, _, h, _, _, _ => by omega
 | k + 1, m, t, acc, hk, h0, hm, ha => by
  obtain ⟨a1, a2, a3⟩ := b_hi (show m % 128 < 128 from Nat.mod_lt _ (by decide))
  rw [cnt_div h0 hm]
  by_cases h : m / 128 = 0
  ·rw [h, cnt_0, List.nil_append, List.singleton_append, pRd, if_neg (by rw [a3]; rintro (⟨_, h2⟩ | h2) <;> omega), a2, if_neg (by omega), if_neg a1]
   congr 1; omega
  ·rw [List.append_assoc, pRd_cnt k (m / 128) _ acc (by omega) (by omega) (by omega) ha, List.singleton_append, pRd, if_neg (by rintro (⟨h2, _⟩ | h2) <;> first | cases h2 | omega), a2, if_neg (by omega), if_neg a1]
   congr 1; omega
theorem pRd_grp (x : UInt32) (t : List UInt8) (acc : List UInt32) (ha : acc.length ≤ 16) : pRd (grp x ++ t) acc 0 false = pRd t (acc ++ [x]) 0 false := by
 have hx : x.toNat < 4294967296 := x.toNat_lt
 obtain ⟨a1, a2, a3⟩ := b_lo (show x.toNat % 128 < 128 from Nat.mod_lt _ (by decide))
 rw [grp_is]; unfold gN
 by_cases h : x.toNat / 128 = 0
 ·rw [h, cnt_0, List.nil_append, List.singleton_append, pRd, if_neg (by rintro (⟨_, h2⟩ | h2); exact a3 h2; omega), a2, if_neg (by omega), if_pos a1]
  congr 3
  rw [show 0 * 128 + x.toNat % 128 = x.toNat by omega, UInt32.ofNat_toNat]
 ·rw [List.append_assoc, pRd_cnt (x.toNat / 128 + 1) _ _ acc (by omega) (by omega) (by omega) ha, List.singleton_append, pRd, if_neg (by rintro (⟨h2, _⟩ | h2) <;> first | cases h2 | omega), a2, if_neg (by omega), if_pos a1]
  congr 3
  rw [show x.toNat / 128 * 128 + x.toNat % 128 = x.toNat by omega, UInt32.ofNat_toNat]
theorem pRd_grps : ∀ (ws acc : List UInt32), acc.length + ws.length ≤ 17 → pRd (grps ws) acc 0 false = some (acc ++ ws)
 | [], acc, _ => by simp [grps, pRd]
 | x :: ws, acc, h => by
  rw [List.length_cons] at h
  rw [grps_cons, pRd_grp x _ acc (by omega), pRd_grps ws _ (by simp; omega)]; simp
theorem rRd_cnt : ∀ (k m : Nat) (t : List UInt8) (acc : List UInt32), m < k → m < 4294967296 → rRd (cnt 5 m ++ t) acc 0 = rRd t acc m
 | 0, _, _, _, h, _ => by omega
 | k + 1, m, t, acc, hk, hm => by
  by_cases h0 : m = 0
  ·rw [h0, cnt_0]; rfl
  obtain ⟨a1, a2, a3⟩ := b_hi (show m % 128 < 128 from Nat.mod_lt _ (by decide))
  rw [cnt_div (by omega) hm, List.append_assoc, rRd_cnt k (m / 128) _ acc (by omega) (by omega), List.singleton_append, rRd, if_neg a1, a2]
  congr 1; omega
theorem rRd_grp (x : UInt32) (t : List UInt8) (acc : List UInt32) : rRd (grp x ++ t) acc 0 = rRd t (acc ++ [x]) 0 := by
 have hx : x.toNat < 4294967296 := x.toNat_lt
 obtain ⟨a1, a2, a3⟩ := b_lo (show x.toNat % 128 < 128 from Nat.mod_lt _ (by decide))
 rw [grp_is]; unfold gN
 rw [List.append_assoc, rRd_cnt (x.toNat / 128 + 1) _ _ acc (by omega) (by omega), List.singleton_append, rRd, if_pos a1, a2]
 congr 3
 rw [show (x.toNat / 128 * 128 + x.toNat % 128) % 4294967296 = x.toNat by omega, UInt32.ofNat_toNat]
theorem rRd_grps : ∀ (ws acc : List UInt32), rRd (grps ws) acc 0 = acc ++ ws
 | [], acc => by simp [grps, rRd]
 | x :: ws, acc => by rw [grps_cons, rRd_grp, rRd_grps ws]; simp
theorem byte_hi {x : UInt8} (h : ¬ x < 128) : x = UInt8.ofNat (x.toNat % 128 + 128) := by
 rw [UInt8.lt_iff_toNat_lt] at h
 have h2 : 128 ≤ x.toNat := Nat.le_of_not_lt h
 have := x.toNat_lt
 apply UInt8.toNat_inj.1; simp; omega
theorem byte_lo {x : UInt8} (h : x < 128) : x = UInt8.ofNat (x.toNat % 128) := by
 rw [UInt8.lt_iff_toNat_lt] at h
 have h2 : x.toNat < 128 := h
 apply UInt8.toNat_inj.1; simp; omega
theorem pRd_some : ∀ (t : List UInt8) (acc w : List UInt32) (n : Nat) (bg : Bool), (bg = false → n = 0) → (bg = true → 0 < n) → n < 4294967296 → pRd t acc n bg = some w → ∃ ws, w = acc ++ ws ∧ cnt 5 n ++ t = grps ws
 | [], acc, w, n, bg, h0, h1, hn, h => by
  rw [pRd] at h
  cases bg with
  | true => cases h
  | false =>
   obtain rfl := h0 rfl
   injection h with h
   exact ⟨[], by simp [h], rfl⟩
 | x :: t, acc, w, n, bg, h0, h1, hn, h => by
  rw [pRd] at h
  split at h
  ·cases h
  ·rename_i hc
   split at h
   ·cases h
   ·rename_i hlt
    have hm : x.toNat % 128 < 128 := Nat.mod_lt _ (by decide)
    split at h
    ·rename_i hx
     obtain ⟨ws, rfl, hw⟩ := pRd_some t _ w 0 false (fun _ => rfl) (fun e => by cases e) (by decide) h
     refine ⟨UInt32.ofNat (n * 128 + x.toNat % 128) :: ws, by simp, ?_⟩
     have e : (UInt32.ofNat (n * 128 + x.toNat % 128)).toNat = n * 128 + x.toNat % 128 := by simp; omega
     rw [cnt_0, List.nil_append] at hw
     rw [grps_cons, grp_is, e, gN_step hm, ← byte_lo hx, ← hw]; simp
    ·rename_i hx
     have hpos : 0 < n * 128 + x.toNat % 128 := by
      cases bg with
      | true => have := h1 rfl; omega
      | false =>
       have hne : x ≠ 128 := fun e => hc (.inl ⟨rfl, e⟩)
       rw [byte_hi hx] at hne
       have : ¬ x.toNat % 128 = 0 := fun e => hne ((b_hi hm).2.2.2 e)
       omega
     obtain ⟨ws, rfl, hw⟩ := pRd_some t _ w _ true (fun e => by cases e) (fun _ => hpos) (by omega) h
     refine ⟨ws, rfl, ?_⟩
     rw [← hw]
     have : cnt 5 (n * 128 + x.toNat % 128) = cnt 5 n ++ [x] := by
      rcases Nat.eq_zero_or_pos n with hz | hz
      ·subst hz
       rw [cnt_0, Nat.zero_mul, Nat.zero_add, cnt_small (by omega) hm, ← byte_hi hx]; rfl
      ·rw [cnt_step hz hm (by omega), ← byte_hi hx]
     rw [this]; simp
def lOf (w : List UInt32) : List UInt32 := [if 2 < w.getD 0 0 / 40 then 2 else w.getD 0 0 / 40, w.getD 0 0 - 40 * (if 2 < w.getD 0 0 / 40 then 2 else w.getD 0 0 / 40)] ++ w.drop 1
theorem u32_back (a b : UInt32) : a + (b - a) = b := by
 apply UInt32.toNat_inj.1
 have ha := a.toNat_lt; have hb := b.toNat_lt
 rw [UInt32.toNat_add, UInt32.toNat_sub]
 omega
theorem bodyOf_lOf {w : List UInt32} (h : w ≠ []) : bodyOf (lOf w) = grps w := by
 cases w with
 | nil => exact absurd rfl h
 | cons x t =>
  unfold bodyOf lOf
  exact congrArg (fun y => grp y ++ grps t) (u32_back _ x)
def pFin (w : List UInt32) : List UInt32 × Option Int := if w ≠ [] ∧ oidOk (lOf w) = true then (lOf w, none) else ([], some 2)
def rFin (a : List UInt8) (w : List UInt32) : List UInt32 × Bool := if w ≠ [] ∧ oidOk (lOf w) = true ∧ bodyOf (lOf w) = a then (lOf w, true) else ([], false)
def pAll (a : List UInt8) : List UInt32 × Option Int := match pRd a [] 0 false with | none => ([], some 2) | some w => pFin w
def rAll (a : List UInt8) : List UInt32 × Bool := if 100 < a.length then ([], false) else rFin a (rRd a [] 0)
theorem lOf_len {w : List UInt32} (h : w ≠ []) : (lOf w).length = w.length + 1 := by
 cases w with
 | nil => exact absurd rfl h
 | cons x t => simp [lOf]
theorem grps_len5 : ∀ l : List UInt32, (grps l).length ≤ 5 * l.length
 | [] => Nat.le_refl _
 | x :: l => by
  rw [grps_cons, List.length_append, List.length_cons]
  have := grps_len5 l
  have hx : x.toNat < 4294967296 := x.toNat_lt
  have : (grp x).length ≤ 5 := by
   rw [grp_is]; unfold gN; rw [cnt_up 4 _ (by omega)]
   have := cnt_len 4 (x.toNat / 128); simp; omega
  omega
theorem all_eq (a : List UInt8) : (∃ l, oidOk l = true ∧ bodyOf l = a ∧ pAll a = (l, none) ∧ rAll a = (l, true)) ∨ (pAll a = ([], some 2) ∧ rAll a = ([], false)) := by
 cases h : pRd a [] 0 false with
 | some w =>
  obtain ⟨ws, e, hw⟩ := pRd_some a [] w 0 false (fun _ => rfl) (fun e => by cases e) (by decide) h
  rw [List.nil_append] at e; subst e
  rw [cnt_0, List.nil_append] at hw
  by_cases hc : w ≠ [] ∧ oidOk (lOf w) = true
  ·refine .inl ⟨lOf w, hc.2, by rw [bodyOf_lOf hc.1, hw], ?_, ?_⟩
   ·unfold pAll; rw [h]; exact if_pos hc
   ·unfold rAll
    have h1 := (oidOk_len hc.2).2
    rw [lOf_len hc.1] at h1
    have h2 := grps_len5 w
    rw [if_neg (by rw [hw]; omega)]
    have e : rRd a [] 0 = w := by rw [hw, rRd_grps]; rfl
    rw [e]; exact if_pos ⟨hc.1, hc.2, by rw [bodyOf_lOf hc.1, hw]⟩
  ·refine .inr ⟨?_, ?_⟩
   ·unfold pAll; rw [h]; exact if_neg hc
   ·unfold rAll
    split
    ·rfl
    ·have e : rRd a [] 0 = w := by rw [hw, rRd_grps]; rfl
     rw [e]; exact if_neg fun hh => hc ⟨hh.1, hh.2.1⟩
 | none =>
  refine .inr ⟨by unfold pAll; rw [h], ?_⟩
  unfold rAll
  split
  ·rfl
  ·refine if_neg fun ⟨h1, h2, h3⟩ => ?_
   rw [bodyOf_lOf h1] at h3
   have h4 := (oidOk_len h2).2
   rw [lOf_len h1] at h4
   generalize rRd a [] 0 = w at *
   rw [← h3, pRd_grps w [] (by simp; omega)] at h
   cases h
theorem shl7_or (y : UInt64) (x : UInt8) (h : y.toNat < 4294967296) : (shl64 y 7 ||| (x &&& 127).toUInt64).toNat = y.toNat * 128 + x.toNat % 128 := by
 have e1 : (shl64 y 7).toNat = y.toNat * 128 := by
  unfold shl64
  rw [if_pos (by decide), UInt64.toNat_shiftLeft, show (UInt64.ofNat (7 : Int).toNat).toNat % 64 = 7 from rfl, Nat.shiftLeft_eq]
  omega
 have e2 : (x &&& 127).toUInt64.toNat = x.toNat % 128 := by
  rw [UInt8.toNat_toUInt64, UInt8.toNat_and, show (127 : UInt8).toNat = 2 ^ 7 - 1 from rfl, Nat.and_two_pow_sub_one_eq_mod]
 rw [UInt64.toNat_or, e1, e2, show y.toNat * 128 = y.toNat <<< 7 by rw [Nat.shiftLeft_eq], ← Nat.shiftLeft_add_eq_or_of_lt (Nat.mod_lt _ (by decide)), Nat.shiftLeft_eq]
def pEnd (o : Option (List UInt32)) : List UInt32 × Option Int := match o with | none => ([], some 2) | some w => pFin w
theorem flat2 (w : List UInt32) (f g : UInt32) : ([[f, g], ((w.drop 1).take (w.length - 1))] : List (List UInt32)).flatten = [f, g] ++ w.drop 1 := by
 rw [List.take_of_length_le (by simp)]; simp
theorem pReadOid_l1_is (n : Nat) {a : List UInt8} (ha : a.length ≤ 1000) : ∀ (m i fu : Nat) (w : List UInt32) (y : UInt64) (bg : Bool), i + m = a.length → m < fu → w.length ≤ 17 → y.toNat < 4294967296 →
  pReadOid_l1 n a fu w y bg (i : Int) = some (pEnd (pRd (a.drop i) w y.toNat bg)) := by
 intro m
 induction m with
 | zero =>
  intro i fu w y bg hi hf hw hy
  cases fu with
  | zero => omega
  | succ fu =>
   rw [pReadOid_l1, ite_f (decide_eq_false (by omega)), List.drop_eq_nil_of_le (show a.length ≤ i by omega), pRd]
   cases bg with
   | true => rfl
   | false =>
    rw [ite_f (by rfl)]
    by_cases h0 : w = []
    ·subst h0; rfl
    ·have hpos : 0 < w.length := List.length_pos_iff.2 h0
     rw [ite_f (by simp; omega), gd_pos (by omega), gd_pos (by omega), gd_pos (by decide), gd_pos (by omega), gd_pos (by omega), gd_pos (by omega), gd_pos (by omega), flat2]
     have hl : (lOf w).length ≤ 18 := by rw [lOf_len h0]; omega
     rw [gd_pos (by simp), gd_pos (by have := hl; unfold lOf at this; omega)]
     change ((pident n (lOf w)).bind fun r => bif !r then some ([], some 2) else some (lOf w, none)) = _
     rw [pident_is, Option.bind_some, if_neg (by simp)]
     show _ = some (pFin w)
     unfold pFin
     cases h : oidOk (lOf w) with
     | true => rw [if_pos ⟨h0, rfl⟩]; rfl
     | false => rw [if_neg (by simp)]; rfl
 | succ m ih =>
  intro i fu w y bg hi hf hw hy
  cases fu with
  | zero => omega
  | succ fu =>
   have hd := drop_at (l := a) (z := 0) (show i < a.length by omega)
   have hy7 := shl7_or y (a.getD i 0) hy
   have hlast : ∀ hw16 : w.length ≤ 16, (gd (0 ≤ (7 : Int)) <|
     bif (decide ((4294967296 : UInt64) ≤ ((shl64 y 7) ||| (((a.getD i 0) &&& (127 : UInt8)).toUInt64)))) then some ([], (some 2))
     else bif (decide ((a.getD i 0) < (128 : UInt8))) then
       gd (rmB (w.length + 1) 4) <| pReadOid_j1 n a (i : Int) (pReadOid_l1 n a fu) (w ++ [((shl64 y 7) ||| (((a.getD i 0) &&& (127 : UInt8)).toUInt64)).toUInt32]) 0 false
      else pReadOid_j1 n a (i : Int) (pReadOid_l1 n a fu) w ((shl64 y 7) ||| (((a.getD i 0) &&& (127 : UInt8)).toUInt64)) true) =
     some (pEnd (if 4294967296 ≤ y.toNat * 128 + (a.getD i 0).toNat % 128 then none
      else if a.getD i 0 < 128 then pRd (a.drop (i + 1)) (w ++ [UInt32.ofNat (y.toNat * 128 + (a.getD i 0).toNat % 128)]) 0 false else pRd (a.drop (i + 1)) w (y.toNat * 128 + (a.getD i 0).toNat % 128) true)) := by
    intro hw16
    rw [gd_pos (by decide)]
    by_cases hbig : 4294967296 ≤ y.toNat * 128 + (a.getD i 0).toNat % 128
    ·rw [if_pos hbig, ite_t (decide_eq_true (by rw [UInt64.le_iff_toNat_le, hy7]; exact hbig))]; rfl
    ·rw [if_neg hbig, ite_f (decide_eq_false (by rw [UInt64.le_iff_toNat_le, hy7]; exact hbig))]
     by_cases hlo : a.getD i 0 < 128
     ·have e32 : ((shl64 y 7) ||| (((a.getD i 0) &&& (127 : UInt8)).toUInt64)).toUInt32 = UInt32.ofNat (y.toNat * 128 + (a.getD i 0).toNat % 128) := by
       apply UInt32.toNat_inj.1
       rw [UInt64.toNat_toUInt32, hy7]; simp
      rw [if_pos hlo, ite_t (decide_eq_true hlo), gd_pos (by unfold rmB; omega)]
      unfold pReadOid_j1
      rw [gd_pos (okI64 (by omega) (by omega)), e32]
      exact ih (i + 1) fu _ 0 false (by omega) (by omega) (by simp; omega) (by decide)
     ·rw [if_neg hlo, ite_f (decide_eq_false hlo)]
      unfold pReadOid_j1
      rw [gd_pos (okI64 (by omega) (by omega))]
      have := ih (i + 1) fu w ((shl64 y 7) ||| (((a.getD i 0) &&& (127 : UInt8)).toUInt64)) true (by omega) (by omega) hw (by rw [hy7]; omega)
      rw [hy7] at this
      exact this
   rw [pReadOid_l1, ite_t (decide_eq_true (by omega)), gd_pos (by omega), gd_pos (by omega), hd, pRd, Int.toNat_natCast]
   cases bg with
   | true =>
    rw [ite_f (by rfl)]
    by_cases h16 : 16 < w.length
    ·rw [ite_t (decide_eq_true (by omega)), if_pos (.inr h16)]; rfl
    ·rw [ite_f (decide_eq_false (by omega)), if_neg (by rintro (⟨h, _⟩ | h); cases h; exact h16 h)]
     exact hlast (by omega)
   | false =>
    rw [ite_t (by rfl)]
    by_cases h128 : a.getD i 0 = 128
    ·rw [ite_t (by rw [h128]; rfl), if_pos (.inl ⟨rfl, h128⟩)]; rfl
    ·rw [ite_f (beq_eq_false_iff_ne.2 h128)]
     by_cases h16 : 16 < w.length
     ·rw [ite_t (decide_eq_true (by omega)), if_pos (.inr h16)]; rfl
     ·rw [ite_f (decide_eq_false (by omega)), if_neg (by rintro (⟨_, h⟩ | h); exact h128 h; exact h16 h)]
      exact hlast (by omega)
theorem pReadOid_is {n : Nat} {a : List UInt8} (ha : a.length ≤ 1000) (hn : 2000 ≤ n) : pReadOid n a = some (pAll a) := by
 unfold pReadOid
 have := pReadOid_l1_is n ha a.length 0 n [] 0 false (by omega) (by omega) (by simp) (by decide)
 rw [List.drop_zero] at this
 exact this
theorem lsame_l1_is (n : Nat) {a b : List UInt32} (hab : a.length = b.length) (ha : a.length ≤ 1000) : ∀ (m i fu : Nat), i + m = a.length → m < fu → (∀ k, k < i → a.getD k 0 = b.getD k 0) → lsame_l1 n a b fu (i : Int) = some (a == b) := by
 intro m
 induction m with
 | zero =>
  intro i fu hi hf hk
  cases fu with
  | zero => omega
  | succ fu =>
   rw [lsame_l1, ite_f (decide_eq_false (by omega))]
   have : a = b := by
    apply List.ext_getElem hab
    intro k h1 h2
    have := hk k (by omega)
    rw [List.getD_eq_getElem?_getD, List.getElem?_eq_getElem h1, List.getD_eq_getElem?_getD, List.getElem?_eq_getElem h2] at this
    exact this
   subst this; simp
 | succ m ih =>
  intro i fu hi hf hk
  cases fu with
  | zero => omega
  | succ fu =>
   rw [lsame_l1, ite_t (decide_eq_true (by omega)), gd_pos (by omega), gd_pos (by omega), gd_pos (by omega), gd_pos (by omega), Int.toNat_natCast]
   by_cases h : a.getD i 0 = b.getD i 0
   ·rw [ite_f (by rw [h]; simp), gd_pos (okI64 (by omega) (by omega))]
    exact ih (i + 1) fu (by omega) (by omega) fun k hk' => by
     rcases Nat.lt_succ_iff_lt_or_eq.1 hk' with h1 | h1
     ·exact hk k h1
     ·rw [h1]; exact h
   ·rw [ite_t (by simpa using h)]
    have : a ≠ b := fun e => h (by rw [e])
    rw [beq_eq_false_iff_ne.2 this]
theorem lsame_is {n : Nat} (hn : 2000 ≤ n) (a b : List UInt32) (ha : a.length ≤ 1000) : lsame n a b = some (a == b) := by
 unfold lsame
 by_cases h : a.length = b.length
 ·rw [ite_f (by simp [h])]
  exact lsame_l1_is n h ha a.length 0 n (by omega) (by omega) (fun k hk => by omega)
 ·rw [ite_t (by simp; omega)]
  have : a ≠ b := fun e => h (by rw [e])
  rw [beq_eq_false_iff_ne.2 this]
theorem vI_nB : ∀ (l : List UInt8) (s : Int), vI s l = s * ((256 ^ l.length : Nat) : Int) + (nB l : Int)
 | [], s => by rw [vI_nil, nB_nil]; simp
 | x :: l, s => by
  rw [vI_cons, vI_nB l, nB_cons, List.length_cons, Nat.pow_succ]
  generalize 256 ^ l.length = p
  have h1 : (s * 256 + (x.toNat : Int)) * (p : Int) = s * 256 * (p : Int) + (x.toNat : Int) * (p : Int) := Int.add_mul _ _ _
  have h2 : s * ((p * 256 : Nat) : Int) = s * 256 * (p : Int) := by rw [Int.natCast_mul, Int.mul_comm (p : Int), ← Int.mul_assoc]; rfl
  have h3 : ((nB l + p * x.toNat : Nat) : Int) = (nB l : Int) + (x.toNat : Int) * (p : Int) := by rw [Int.natCast_add, Int.natCast_mul, Int.mul_comm (p : Int)]
  omega
theorem val8_nB (l : List UInt8) : val8 l = sg l * ((256 ^ l.length : Nat) : Int) + (nB l : Int) := vI_nB l _
theorem val8_eqlen {a b : List UInt8} (hl : a.length = b.length) (h : val8 a = val8 b) : a = b := by
 rw [val8_nB, val8_nB, hl] at h
 have ha := nB_lt a; have hb := nB_lt b
 rw [hl] at ha
 have hsa := sg_bound a; have hsb := sg_bound b
 have hca : sg a = -1 ∨ sg a = 0 := by omega
 have hcb : sg b = -1 ∨ sg b = 0 := by omega
 refine nB_inj hl ?_
 generalize 256 ^ b.length = p at *
 rcases hca with e1 | e1 <;> rcases hcb with e2 | e2 <;> rw [e1, e2] at h <;> omega
theorem ext8 {a : List UInt8} (h : a ≠ []) : ∃ e : UInt8, spare (e :: a) = true ∧ val8 (e :: a) = val8 a := by
 cases a with
 | nil => exact absurd rfl h
 | cons y l =>
  by_cases hy : 128 ≤ y.toNat
  ·have hs : spare (255 :: y :: l) = true := by
    unfold spare
    show (((255 : UInt8).toNat == 0 && decide (y.toNat < 128)) || ((255 : UInt8).toNat == 255 && decide (128 ≤ y.toNat))) = true
    rw [decide_eq_true hy]; simp
   exact ⟨255, hs, val_spare hs⟩
  ·have hs : spare (0 :: y :: l) = true := by
    unfold spare
    show (((0 : UInt8).toNat == 0 && decide (y.toNat < 128)) || ((0 : UInt8).toNat == 255 && decide (128 ≤ y.toNat))) = true
    rw [decide_eq_true (show y.toNat < 128 by omega)]; rfl
   exact ⟨0, hs, val_spare hs⟩
theorem val8_longer : ∀ (k : Nat) (a b : List UInt8), b.length = a.length + k + 1 → a ≠ [] → val8 a = val8 b → spare b = true
 | 0, a, b, hl, h0, h => by
  obtain ⟨e, h1, h2⟩ := ext8 h0
  have := val8_eqlen (a := e :: a) (b := b) (by simp; omega) (by rw [h2, h])
  rw [← this]; exact h1
 | k + 1, a, b, hl, h0, h => by
  obtain ⟨e, h1, h2⟩ := ext8 h0
  exact val8_longer k (e :: a) b (by simp; omega) (by simp) (by rw [h2, h])
theorem val8_min {a b : List UInt8} (ha : a ≠ []) (hb : b ≠ []) (sa : (decide (2 ≤ a.length) && spare a) = false) (sb : (decide (2 ≤ b.length) && spare b) = false) (h : val8 a = val8 b) : a = b := by
 have pa := List.length_pos_iff.2 ha; have pb := List.length_pos_iff.2 hb
 rcases Nat.lt_trichotomy a.length b.length with hl | hl | hl
 ·have := val8_longer (b.length - a.length - 1) a b (by omega) ha h
  rw [this, decide_eq_true (show 2 ≤ b.length by omega)] at sb; cases sb
 ·exact val8_eqlen hl h
 ·have := val8_longer (a.length - b.length - 1) b a (by omega) hb h.symm
  rw [this, decide_eq_true (show 2 ≤ a.length by omega)] at sa; cases sa
theorem val8_range {a : List UInt8} (h0 : a ≠ []) (h8 : a.length ≤ 8) : -9223372036854775808 ≤ val8 a ∧ val8 a < 9223372036854775808 := by
 cases a with
 | nil => exact absurd rfl h0
 | cons x l =>
  have hx := b_lt x
  have e : val8 (x :: l) = vI (sg (x :: l) * 256 + (x.toNat : Int)) l := vI_cons _ _ _
  rw [e]
  refine vI_small ?_ (by simp at h8; omega)
  have e2 : sg (x :: l) = if 128 ≤ x.toNat then -1 else 0 := rfl
  rw [e2]
  split <;> omega
theorem int_there {n : Nat} (hn : 100 ≤ n) {a : Int} (h1 : -9223372036854775808 ≤ a) (h2 : a < 9223372036854775808) : ∃ r, pInt n a = some r ∧ pReadInt n r = some (a, none) := by
 obtain ⟨r, hr, hr0, hr8, hrv, hrs⟩ := pInt_is hn h1 h2
 refine ⟨r, hr, ?_⟩
 rw [pReadInt_is hn, if_neg (by rintro (h | ⟨h3, h4⟩); exact hr0 h; rw [decide_eq_true h3, h4] at hrs; cases hrs), if_neg (by omega), hrv]
theorem int_back {n : Nat} (hn : 100 ≤ n) (b : List UInt8) : ∃ r, pReadInt n b = some r ∧ (r.2 = none → pInt n r.1 = some b) := by
 refine ⟨_, pReadInt_is hn b, ?_⟩
 split
 ·intro h; cases h
 ·rename_i hc
  split
  ·intro h; cases h
  ·intro _
   have h0 : b ≠ [] := fun e => hc (.inl e)
   have hs : (decide (2 ≤ b.length) && spare b) = false := by
    cases hsp : spare b with
    | false => rw [Bool.and_false]
    | true => rw [Bool.and_true]; exact decide_eq_false fun e => hc (.inr ⟨e, hsp⟩)
   have hr := val8_range h0 (by omega)
   obtain ⟨r, hr, hr0, hr8, hrv, hrs⟩ := pInt_is hn hr.1 hr.2
   show pInt n (val8 b) = some b
   rw [hr, val8_min hr0 h0 hrs hs hrv]
theorem dB_head {v : Nat} (h : dB v ≠ []) : ((dB v).getD 0 0).toNat ≠ 0 := by
 intro h0
 cases e : dB v with
 | nil => exact h e
 | cons x t =>
  rw [e] at h0
  have hx : x.toNat = 0 := h0
  have h1 := nB_dB v
  rw [e, nB_cons, hx] at h1
  have h2 := nB_lt t
  have h3 := (dB_len v t.length).2 (by omega)
  rw [e, List.length_cons] at h3; omega
theorem bigL_ok (v : Nat) : bigL v ≠ [] ∧ ((bigL v).getD 0 0).toNat < 128 ∧ ¬ (2 ≤ (bigL v).length ∧ spare (bigL v) = true) ∧ nB (bigL v) = v := by
 unfold bigL
 split
 ·rename_i h
  refine ⟨by simp, (by show (0 : UInt8).toNat < 128; decide), ?_, by rw [nB_cons, nB_dB]; simp⟩
  rintro ⟨h1, h2⟩
  rcases h with h | h
  ·rw [h] at h1; simp at h1
  ·unfold spare at h2
   have e : ((0 :: dB v : List UInt8).getD 1 0) = (dB v).getD 0 0 := by simp [List.getD_eq_getElem?_getD]
   rw [e, decide_eq_false (show ¬ ((dB v).getD 0 0).toNat < 128 by omega)] at h2
   simp at h2
 ·rename_i h
  have h0 : dB v ≠ [] := fun e => h (.inl e)
  have h1 : ((dB v).getD 0 0).toNat < 128 := Nat.lt_of_not_le fun e => h (.inr e)
  refine ⟨h0, h1, ?_, nB_dB v⟩
  rintro ⟨h2, h3⟩
  have hne : ((dB v).getD 0 0).toNat ≠ 0 := dB_head h0
  unfold spare at h3
  simp only [Bool.or_eq_true, Bool.and_eq_true, beq_iff_eq, decide_eq_true_eq] at h3
  omega
theorem big_there {n : Nat} (hn : 18446744073709551616 ≤ n) {a : List UInt32} (ha : a.length ≤ 60) : ∃ b, pBig n a = some (b, none) ∧ pReadBig n b = some (nD (nV a), (nD (nV a)).length, none) := by
 have hd : (nD (nV a)).length ≤ 60 := Nat.le_trans D_le ha
 have hb := bigL_ok (nV a)
 refine ⟨bigL (nV a), by rw [pBig_is hn (by omega), if_pos (by omega)], ?_⟩
 have hlen : (dB (nV a)).length ≤ 240 := by have := D_len_dB (nV a); omega
 have hbl : (bigL (nV a)).length ≤ 300 := by
  unfold bigL; split
  ·simp; omega
  ·omega
 rw [pReadBig_is hn (by omega), if_neg (by rintro (h | h | h); exact hb.1 h; have := hb.2.1; omega; exact hb.2.2.1 h), hb.2.2.2, if_neg (by omega)]
theorem lOf_self {l : List UInt32} (h : oidOk l = true) : lOf ((40 * l.getD 0 0 + l.getD 1 0) :: l.drop 2) = l := by
 obtain ⟨h2, h16⟩ := oidOk_len h
 obtain ⟨x, y, t, rfl⟩ : ∃ x y t, l = x :: y :: t := by
  match l, h2 with
  | x :: y :: t, _ => exact ⟨x, y, t, rfl⟩
 unfold oidOk at h
 simp only [Bool.and_eq_true, Bool.or_eq_true, decide_eq_true_eq, beq_iff_eq] at h
 have h3 := h.2
 have hf : (if 2 < (40 * x + y) / 40 then 2 else (40 * x + y) / 40) = x ∧ 40 * x + y - 40 * x = y := by
  refine ⟨?_, ?_⟩
  ·rcases h3 with ⟨ha, hb⟩ | ⟨ha, hb⟩
   ·have ha' : x.toNat < 2 := ha
    have hb' : y.toNat < 40 := hb
    have e : ((40 * x + y) / 40).toNat = x.toNat := by
     rw [UInt32.toNat_div, UInt32.toNat_add, UInt32.toNat_mul]
     show (40 * x.toNat % 4294967296 + y.toNat) % 4294967296 / 40 = _
     rw [Nat.mod_eq_of_lt (show 40 * x.toNat < 4294967296 by omega), Nat.mod_eq_of_lt (show 40 * x.toNat + y.toNat < 4294967296 by omega)]
     omega
    have e2 : (40 * x + y) / 40 = x := UInt32.toNat_inj.1 e
    rw [e2, if_neg (by rw [UInt32.lt_iff_toNat_lt]; show ¬ 2 < x.toNat; omega)]
   ·have ha' : x = 2 := ha
    have hb' : y.toNat ≤ 4294967215 := hb
    subst ha'
    have e : ((40 * (2 : UInt32) + y) / 40).toNat = (80 + y.toNat) / 40 := by
     rw [UInt32.toNat_div, UInt32.toNat_add, UInt32.toNat_mul]
     show (40 * 2 % 4294967296 + y.toNat) % 4294967296 / 40 = _
     omega
    split
    ·rfl
    ·rename_i hn
     rw [UInt32.lt_iff_toNat_lt, e] at hn
     apply UInt32.toNat_inj.1
     rw [e]
     have : ¬ 2 < (80 + y.toNat) / 40 := hn
     show _ = 2
     omega
  ·apply UInt32.toNat_inj.1
   have hx := (40 * x).toNat_lt; have hy := y.toNat_lt
   rw [UInt32.toNat_sub, UInt32.toNat_add]
   omega
 show [if 2 < (40 * x + y) / 40 then 2 else (40 * x + y) / 40, 40 * x + y - 40 * (if 2 < (40 * x + y) / 40 then 2 else (40 * x + y) / 40)] ++ t = x :: y :: t
 rw [hf.1, hf.2]; rfl
theorem oid_there {n : Nat} (hn : 2000 ≤ n) {l : List UInt32} (h : oidOk l = true) : pReadOid n (bodyOf l) = some (l, none) := by
 obtain ⟨h2, h16⟩ := oidOk_len h
 have e : bodyOf l = grps ((40 * l.getD 0 0 + l.getD 1 0) :: l.drop 2) := rfl
 have hlen : (bodyOf l).length ≤ 1000 := by rw [e]; have h9 := grps_len ((40 * l.getD 0 0 + l.getD 1 0) :: l.drop 2); rw [List.length_cons, List.length_drop] at h9; omega
 rw [pReadOid_is hlen hn]
 unfold pAll
 rw [e, pRd_grps _ [] (by simp; omega)]
 show some (pFin _) = _
 unfold pFin
 rw [List.nil_append, lOf_self h, if_pos ⟨by simp, h⟩]
theorem oid_back {n : Nat} (hn : 2000 ≤ n) {b : List UInt8} (hb : b.length ≤ 1000) : ∃ r, pReadOid n b = some r ∧ (r.2 = none → pOid n r.1 = some (b, none)) := by
 refine ⟨_, pReadOid_is hb hn, fun h => ?_⟩
 rcases all_eq b with ⟨l, h1, h2, h3, h4⟩ | ⟨h3, h4⟩
 ·rw [h3, pOid_is (by omega), if_pos h1, h2]
 ·rw [h3] at h; cases h
theorem bits_back {n : Nat} {b : List UInt8} (hb : b.length ≤ 1000) : ∃ r, pReadBits n b = some r ∧ (r.2.2 = none → pBits n r.1 r.2.1 = some (b, none)) := by
 by_cases h0 : b.length = 0
 ·obtain rfl := List.eq_nil_of_length_eq_zero h0
  exact ⟨([], 0, some 2), rfl, fun h => by cases h⟩
 ·refine ⟨_, pReadBits_is n b (by omega) h0, ?_⟩
  split
  ·rename_i hk
   intro _
   rw [pBits_is n _ _ (by simp; omega), if_pos hk]
   congr 2
   cases b with
   | nil => exact absurd rfl h0
   | cons x t =>
    have ex : UInt8.ofInt ((x.toNat : Nat) : Int) = x := by
     apply UInt8.toNat_inj.1
     rw [ofInt8]
     have := x.toNat_lt
     omega
    show [UInt8.ofInt ((x.toNat : Nat) : Int)] ++ _ = _
    rw [ex]; simp
  ·intro h; cases h
theorem count_lt {y m d h i s : Int} (hv : okZ y m d h i s) : 0 ≤ countZ y m d h i s ∧ countZ y m d h i s < 315537897600 := by
 have h1 := day_lt hv
 have h2 := count_b hv
 obtain ⟨a1, a2, a3, a4, a5, a6, a7, a8, a9, a10, a11, a12⟩ := hv
 have h3 := msum_mono y (show m.toNat ≤ 12 by omega)
 have h4 := msum_13 y
 have h5 := ahead_succ a1
 have h6 := ahead_mono (x := y + 1) (y := 10000) (by omega) (by omega)
 have hc3 : aheadZ 10000 = 3652059 := by decide
 unfold countZ
 omega
theorem at_there {n : Nat} (hn : 20000 ≤ n) {y m d h i s : Int} (hv : okZ y m d h i s) : pAt n (countZ y m d h i s) = some (y, m, d, h, i, s, none) := by
 have hb := count_lt hv
 rcases pAt_is hn (countZ y m d h i s) (by omega) with ⟨h1, _⟩ | ⟨_, y', m', d', h', i', s', h1, h2, h3⟩
 ·exact absurd hb h1
 ·rw [h1]
  rcases lex_tri y m d h i s y' m' d' h' i' s' with hl | hl | ⟨rfl, rfl, rfl, rfl, rfl, rfl⟩
  ·have := lex_count hv h2 hl; omega
  ·have := lex_count h2 hv hl; omega
  ·rfl
theorem time_there {n : Nat} (hn : 100 ≤ n) {y m d h i s : Int} (hv : okZ y m d h i s) : pReadTime n (markZ y) (two2 (numsZ y m d h i s) ++ [90]) = some (y, m, d, h, i, s, none) := by
 have h100 := nums_100 hv
 by_cases hy : 1950 ≤ y ∧ y < 2050
 ·have em : markZ y = 23 := if_pos hy
  have en : numsZ y m d h i s = [y % 100, m, d, h, i, s] := if_pos hy
  rw [en] at h100 ⊢
  have hl : (two2 [y % 100, m, d, h, i, s] ++ [90]).length = 13 := by rw [List.length_append, two_len]; rfl
  obtain ⟨g1, g2, g3, g4, g5, g6, g7, g8⟩ := (two6 hl h100).1 rfl
  generalize two2 [y % 100, m, d, h, i, s] ++ [90] = a at *
  have ey : (if 50 ≤ vp a 0 then 19 else 20) * 100 + vp a 0 = y := by rw [← g3]; split <;> omega
  rw [em, pRead_23 hn a hl, if_pos ⟨g2, g1⟩, ey, ← g4, ← g5, ← g6, ← g7, ← g8, if_pos ⟨hv, em⟩]
 ·have em : markZ y = 24 := if_neg hy
  have en : numsZ y m d h i s = [y / 100, y % 100, m, d, h, i, s] := if_neg hy
  rw [en] at h100 ⊢
  have hl : (two2 [y / 100, y % 100, m, d, h, i, s] ++ [90]).length = 15 := by rw [List.length_append, two_len]; rfl
  obtain ⟨g1, g2, g3, g4, g5, g6, g7, g8, g9⟩ := (two7 hl h100).1 rfl
  generalize two2 [y / 100, y % 100, m, d, h, i, s] ++ [90] = a at *
  have ey : vp a 0 * 100 + vp a 1 = y := by rw [← g3, ← g4]; omega
  rw [em, pRead_24 hn a hl, if_pos ⟨g2, g1⟩, ey, ← g5, ← g6, ← g7, ← g8, ← g9, if_pos ⟨hv, em⟩]
end Go.Sx
end
