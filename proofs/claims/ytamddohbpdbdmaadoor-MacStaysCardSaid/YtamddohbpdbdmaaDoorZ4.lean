import Derived.Test.YtamddohbpdbdmaaDoorZ3
import Derived.Test.YtamddohbpdbdmaaDoorProg
import Derived.Shelf.RegionOpenPlain
import Derived.WalkKit
import Derived.Lib.Walk
import Derived.Lib.SliceRun
import Derived.Lib.AppendZerosOnto
section
set_option linter.unusedVariables false
set_option linter.unusedSimpArgs false
namespace Go.Proofs.YtamddohbpdbdmaaDoor
open Go.RowKit Go.Ch Go.Sx Go.Lib Go.Shelf Go.Proofs

theorem cat_u8 : (Tryd.prog.info? 5).map (fun i => (i.zero, i.size, i.bytes)) = some (some (.int .u8 0), 1, 1) := by kernel_rfl
set_option maxHeartbeats 2000000 in
set_option maxRecDepth 100000 in
theorem grow_0 (w : World) : Calls Tryd.prog 30 #[.slice none 0 0, .int .i64 0] w (Ret fun v w' => Ext w w' ∧ Own w' w.heap.size 5 v []) := by
  go_enter Tryd.func30, Tryd.ntmps30
  go_wp2
  go_ret
  exact ⟨_, rfl, Below.refl _ _, World.ownsRow_nil _ _ _ _⟩
set_option maxHeartbeats 4000000 in
set_option maxRecDepth 100000 in
theorem grow_1 (w : World) (n : Nat) (h0 : 0 < n) (hn : n ≤ 1000000000000) : Calls Tryd.prog 30 #[.slice none 0 0, .int .i64 n] w (Ret fun v w' => Ext w w' ∧ Own w' w.heap.size 5 v []) := by
  obtain ⟨i0, hi0, hz0, hs0, hb0⟩ := info_parts cat_u8
  have t22 : Tryd.prog.underlying 22 = some (.slice 5) := Tryd.underlying22
  have t3 : Tryd.prog.underlying 3 = some (.int .i64) := Tryd.underlying3
  have u22 := run_underlying t22
  have u3 := run_underlying t3
  have h1 : ¬ ((n : Int) < 0) := by omega
  have h3 : wrap64 ((n : Int) - 0) = (n : Int) := by unfold wrap64; omega
  have h4 : (n : Int) > 0 := by omega
  have hold : (Builtin.firstCells i0.size 0 (.slice none 0 0)).run Tryd.prog w.drew = .ok (#[] : Array Value) w.drew := run_firstCells_none w.drew i0.size 0 0 0
  have hrz : ∀ ty, (Builtin.append_ #[22, 3] ty #[.slice none 0 0, .int .i64 (n : Int)]).run Tryd.prog w =
      .ok (.slice (some ⟨w.heap.size, 0, none⟩) n (grownCap w n 0 5)) (w.drew.alloc (.cells (#[] ++ Builtin.zeroCells (Value.cells (.int .u8 0)) n ++ Builtin.zeroCells (Value.cells (.int .u8 0)) (grownCap w n 0 5 - n)) 5)) := fun ty => by
    have h := Lib.run_append_grow_zeros w 22 3 ty 5 i0 (.int .u8 0) .i64 .i64 t22 t3 hi0 hz0 none 0 0 [] hold n (by omega) (by omega) (by omega) (by omega)
      (by rw [hb0]; omega)
      (by have := growslice_fits (show 0 < n from h0) (show n * i0.bytes ≤ 140737488355328 by rw [hb0]; omega); simpa using this)
    simpa using h
  have hGn : n ≤ grownCap w n 0 5 := grownCap_ge w _ _ _
  have hGm := grownCap_le_maxLen w n 0 5 (by unfold maxLen; omega)
  obtain ⟨G, hG⟩ : ∃ G, G = grownCap w n 0 5 := ⟨_, rfl⟩
  rw [← hG] at hrz hGn hGm
  have hG63 : G ≤ 9223372036854775807 := by unfold maxLen at hGm; omega
  clear hold hG
  go_enter Tryd.func30, Tryd.ntmps30
  go_wp2_with (at_builtin; refine Lib.wpList_append_run _ rfl _ _ _ _ rfl _ _ rfl rfl _ _ (hrz _) ?_)
  all_goals
    go_ret
    refine ⟨_, rfl, ?_, rfl, .inr ⟨w.heap.size, G, Builtin.zeroCells #[Value.int .u8 0] n ++ Builtin.zeroCells #[Value.int .u8 0] (G - n), rfl, Nat.le_refl _, ?_, Nat.zero_le _, hGm, ?_, ?_⟩⟩
    · exact ((Below.refl _ _).alloc (Nat.le_refl _) _).drew
    · show (w.heap.push _)[w.heap.size]? = _
      exact Array.getElem?_push_size
    · have hz : ∀ k, (Builtin.zeroCells #[Value.int .u8 0] k).size = k := fun k => by simp [Builtin.zeroCells]
      rw [Array.size_append, hz, hz]; omega
    · simp
theorem grow_c (w : World) (n : Nat) (hn : n ≤ 1000000000000) : Calls Tryd.prog 30 #[.slice none 0 0, .int .i64 n] w (Ret fun v w' => Ext w w' ∧ Own w' w.heap.size 5 v []) := by
  cases n with
  | zero => exact grow_0 w
  | succ n => exact grow_1 w (n + 1) (Nat.succ_pos _) hn
theorem cat_sl : (Tryd.prog.info? 22).map (fun i => (i.zero, i.size, i.bytes)) = some (some (.slice none 0 0), 1, 24) := by kernel_rfl
/-- slices of bytes -/
def SlS (w : World) (vs : List Value) (ls : List (List UInt8)) : Prop := vs.length = ls.length ∧ ∀ i, i < ls.length → ∃ B, Sl w B (vs.getD i undef) ((ls.getD i []).map bU)
theorem flat_take (ls : List (List UInt8)) (k : Nat) (h : k < ls.length) : (ls.take (k + 1)).flatten = (ls.take k).flatten ++ ls.getD k [] := by
  rw [List.take_succ_eq_append_getElem h, List.flatten_append, List.getD_eq_getElem?_getD, List.getElem?_eq_getElem h]; simp
theorem flat_le (ls : List (List UInt8)) (k : Nat) : (ls.take k).flatten.length ≤ ls.flatten.length := by
  have : ls.flatten = (ls.take k).flatten ++ (ls.drop k).flatten := by rw [← List.flatten_append, List.take_append_drop]
  rw [this, List.length_append]; omega
theorem vget {vs : List Value} {k n : Nat} (hn : vs.length = n) (h : k < n) : vs[k]? = some (vs.getD k undef) := by
  rw [List.getD_eq_getElem?_getD, List.getElem?_eq_getElem (by omega)]; rfl
set_option maxHeartbeats 800000 in
theorem concat_c (w : World) (B : Nat) (v : Value) (vs : List Value) (ls : List (List UInt8)) (hv : Sl w B v vs) (hvs : SlS w vs ls) (hl : ls.length ≤ 1000000) (hb : ls.flatten.length ≤ 1000000000) :
    Calls Tryd.prog 20 #[v] w (Ret fun v' w' => Ext w w' ∧ Own w' w.heap.size 5 v' (ls.flatten.map bU)) := by
  obtain ⟨i5, hi5, hz5, hs5, hb5⟩ := info_parts cat_u8
  obtain ⟨i22, hi22, hz22, hs22, hb22⟩ := info_parts cat_sl
  have hvl := hvs.1
  go_enter Tryd.func20, Tryd.ntmps20
  go_wp2_with (first
    | ((with_reducible refine g_at (d := 10) ?_); refine wpl_len rfl Tryd.underlying55 hv (by first | rw [List.length_map] | rfl) ?_; try (conv in (Act.put _ _ _) => simp only [Act.put, List.setIfInBounds_toArray, List.set_cons_succ, List.set_cons_zero]))
    | ((with_reducible refine g_at (d := 17) ?_); refine wpl_len rfl Tryd.underlying22 (by first | assumption | exact Own.sl (by assumption) | exact Sl.back (by first | assumption | exact Ext.drew' (by assumption) | exact Ext.undrew (by assumption)) (by first | assumption | exact Own.sl (by assumption) | exact Sl.back (by first | assumption | exact Ext.drew' (by assumption) | exact Ext.undrew (by assumption)) (by first | assumption | exact Own.sl (by assumption) | exact Sl.back (by first | assumption | exact Ext.drew' (by assumption) | exact Ext.undrew (by assumption)) (by first | assumption | exact Own.sl (by assumption) | exact Sl.back (by first | assumption | exact Ext.drew' (by assumption) | exact Ext.undrew (by assumption)) (by first | assumption | exact Own.sl (by assumption) | exact Sl.back (by first | assumption | exact Ext.drew' (by assumption) | exact Ext.undrew (by assumption)) (by first | assumption | exact Own.sl (by assumption) | exact Sl.back (by first | assumption | exact Ext.drew' (by assumption) | exact Ext.undrew (by assumption)) (by first | assumption | exact Own.sl (by assumption) | exact Sl.back (by first | assumption | exact Ext.drew' (by assumption) | exact Ext.undrew (by assumption)) (by first | assumption | exact Own.sl (by assumption))))))))) (by first | rw [List.length_map] | rfl) ?_; try (conv in (Act.put _ _ _) => simp only [Act.put, List.setIfInBounds_toArray, List.set_cons_succ, List.set_cons_zero]))
    | ((with_reducible refine g_at (d := 26) ?_); refine wpl_len rfl Tryd.underlying55 (by first | assumption | exact Own.sl (by assumption) | exact Sl.back (by first | assumption | exact Ext.drew' (by assumption) | exact Ext.undrew (by assumption)) (by first | assumption | exact Own.sl (by assumption) | exact Sl.back (by first | assumption | exact Ext.drew' (by assumption) | exact Ext.undrew (by assumption)) (by first | assumption | exact Own.sl (by assumption) | exact Sl.back (by first | assumption | exact Ext.drew' (by assumption) | exact Ext.undrew (by assumption)) (by first | assumption | exact Own.sl (by assumption) | exact Sl.back (by first | assumption | exact Ext.drew' (by assumption) | exact Ext.undrew (by assumption)) (by first | assumption | exact Own.sl (by assumption) | exact Sl.back (by first | assumption | exact Ext.drew' (by assumption) | exact Ext.undrew (by assumption)) (by first | assumption | exact Own.sl (by assumption) | exact Sl.back (by first | assumption | exact Ext.drew' (by assumption) | exact Ext.undrew (by assumption)) (by first | assumption | exact Own.sl (by assumption) | exact Sl.back (by first | assumption | exact Ext.drew' (by assumption) | exact Ext.undrew (by assumption)) (by first | assumption | exact Own.sl (by assumption))))))))) (by first | rw [List.length_map] | rfl) ?_; try (conv in (Act.put _ _ _) => simp only [Act.put, List.setIfInBounds_toArray, List.set_cons_succ, List.set_cons_zero])))
  rw [hvl]
  go_loopw [3, 11] (fun s i wr => ∃ k : Nat, k ≤ ls.length ∧ i = .int .i64 k ∧ s = .int .i64 (((ls.take k).flatten.length : Nat) : Int) ∧ Ext w wr) (fun _ i _ => ls.length - (RowKit.intOf i).toNat)
  case atStart => exact ⟨0, Nat.zero_le _, rfl, by simp, Below.refl _ _⟩
  case round =>
    obtain ⟨k, hk, rfl, rfl, hx⟩ := hrel
    by_cases hlt : k < ls.length
    · obtain ⟨Bi, hsi⟩ := hvs.2 k hlt
      have hf := flat_take ls k hlt
      have hle := flat_le ls (k + 1)
      generalize ls.getD k [] = x at *
      rw [hf, List.length_append] at hle
      have hg : (ls.take (k + 1)).flatten.length = (ls.take k).flatten.length + x.length := by rw [hf, List.length_append]
      have HF := Lib.hid hg
      clear hf hg
      generalize (ls.take k).flatten.length = S at *
      have hw : wrap64 ((S : Int) + (x.length : Int)) = (S : Int) + (x.length : Int) := by unfold wrap64; omega
      have hneg : ¬ ((S : Int) + (x.length : Int) < 0) := Int.not_lt.2 (Int.add_nonneg (Int.natCast_nonneg _) (Int.natCast_nonneg _))
      go_wp2_with (first
        | ((with_reducible refine g_at (d := 13) ?_); refine wpl_index rfl rfl Tryd.underlying55 hi22 hs22 (hv.ext hx) rfl (vget hvl hlt) ?_; intro ad13 hb13 hc13; try (conv in (Act.put _ _ _) => simp only [Act.put, List.setIfInBounds_toArray, List.set_cons_succ, List.set_cons_zero]))
        | ((with_reducible refine g_at (d := 14) ?_); refine wpl_load1 rfl Tryd.underlying22 rfl hc13 ?_; try (conv in (Act.put _ _ _) => simp only [Act.put, List.setIfInBounds_toArray, List.set_cons_succ, List.set_cons_zero]))
        | ((with_reducible refine g_at (d := 17) ?_); refine wpl_len rfl Tryd.underlying22 (hsi.ext hx) (by first | rw [List.length_map] | rfl) ?_; try (conv in (Act.put _ _ _) => simp only [Act.put, List.setIfInBounds_toArray, List.set_cons_succ, List.set_cons_zero]))
        | ((with_reducible refine g_at (d := 10) ?_); refine wpl_len rfl Tryd.underlying55 (by first | assumption | exact Own.sl (by assumption) | exact Sl.back (by first | assumption | exact Ext.drew' (by assumption) | exact Ext.undrew (by assumption)) (by first | assumption | exact Own.sl (by assumption) | exact Sl.back (by first | assumption | exact Ext.drew' (by assumption) | exact Ext.undrew (by assumption)) (by first | assumption | exact Own.sl (by assumption) | exact Sl.back (by first | assumption | exact Ext.drew' (by assumption) | exact Ext.undrew (by assumption)) (by first | assumption | exact Own.sl (by assumption) | exact Sl.back (by first | assumption | exact Ext.drew' (by assumption) | exact Ext.undrew (by assumption)) (by first | assumption | exact Own.sl (by assumption) | exact Sl.back (by first | assumption | exact Ext.drew' (by assumption) | exact Ext.undrew (by assumption)) (by first | assumption | exact Own.sl (by assumption) | exact Sl.back (by first | assumption | exact Ext.drew' (by assumption) | exact Ext.undrew (by assumption)) (by first | assumption | exact Own.sl (by assumption) | exact Sl.back (by first | assumption | exact Ext.drew' (by assumption) | exact Ext.undrew (by assumption)) (by first | assumption | exact Own.sl (by assumption))))))))) (by first | rw [List.length_map] | rfl) ?_; try (conv in (Act.put _ _ _) => simp only [Act.put, List.setIfInBounds_toArray, List.set_cons_succ, List.set_cons_zero]))
        | ((with_reducible refine g_at (d := 26) ?_); refine wpl_len rfl Tryd.underlying55 (by first | assumption | exact Own.sl (by assumption) | exact Sl.back (by first | assumption | exact Ext.drew' (by assumption) | exact Ext.undrew (by assumption)) (by first | assumption | exact Own.sl (by assumption) | exact Sl.back (by first | assumption | exact Ext.drew' (by assumption) | exact Ext.undrew (by assumption)) (by first | assumption | exact Own.sl (by assumption) | exact Sl.back (by first | assumption | exact Ext.drew' (by assumption) | exact Ext.undrew (by assumption)) (by first | assumption | exact Own.sl (by assumption) | exact Sl.back (by first | assumption | exact Ext.drew' (by assumption) | exact Ext.undrew (by assumption)) (by first | assumption | exact Own.sl (by assumption) | exact Sl.back (by first | assumption | exact Ext.drew' (by assumption) | exact Ext.undrew (by assumption)) (by first | assumption | exact Own.sl (by assumption) | exact Sl.back (by first | assumption | exact Ext.drew' (by assumption) | exact Ext.undrew (by assumption)) (by first | assumption | exact Own.sl (by assumption) | exact Sl.back (by first | assumption | exact Ext.drew' (by assumption) | exact Ext.undrew (by assumption)) (by first | assumption | exact Own.sl (by assumption))))))))) (by first | rw [List.length_map] | rfl) ?_; try (conv in (Act.put _ _ _) => simp only [Act.put, List.setIfInBounds_toArray, List.set_cons_succ, List.set_cons_zero])))
      go_roundw
      case rel => exact ⟨k + 1, by omega, by go_num, by rw [HF.out]; go_num, hx⟩
      case measure => simp [RowKit.intOf]; omega
    · obtain rfl : k = ls.length := by omega
      rw [List.take_length]
      have HB := Lib.hid hb
      generalize hS : ls.flatten.length = S at *
      have HS := Lib.hid hS
      clear hS
      go_wp2_with (first
        | ((with_reducible refine g_at (d := 24) ?_); refine wpl_call Tryd.func30 (by kernel_rfl) (by kernel_rfl) rfl (grow_c wr S (Nat.le_trans HB.out (by decide))) ?_; rintro v24 w24 ⟨hx24, h24⟩; try (conv in (Act.put _ _ _) => simp only [Act.put, List.setIfInBounds_toArray, List.set_cons_succ, List.set_cons_zero]))
        | ((with_reducible refine g_at (d := 26) ?_); refine wpl_len rfl Tryd.underlying55 (hv.ext (hx.tr hx24)) (by first | rw [List.length_map] | rfl) ?_; try (conv in (Act.put _ _ _) => simp only [Act.put, List.setIfInBounds_toArray, List.set_cons_succ, List.set_cons_zero]))
        | ((with_reducible refine g_at (d := 10) ?_); refine wpl_len rfl Tryd.underlying55 (by first | assumption | exact Own.sl (by assumption) | exact Sl.back (by first | assumption | exact Ext.drew' (by assumption) | exact Ext.undrew (by assumption)) (by first | assumption | exact Own.sl (by assumption) | exact Sl.back (by first | assumption | exact Ext.drew' (by assumption) | exact Ext.undrew (by assumption)) (by first | assumption | exact Own.sl (by assumption) | exact Sl.back (by first | assumption | exact Ext.drew' (by assumption) | exact Ext.undrew (by assumption)) (by first | assumption | exact Own.sl (by assumption) | exact Sl.back (by first | assumption | exact Ext.drew' (by assumption) | exact Ext.undrew (by assumption)) (by first | assumption | exact Own.sl (by assumption) | exact Sl.back (by first | assumption | exact Ext.drew' (by assumption) | exact Ext.undrew (by assumption)) (by first | assumption | exact Own.sl (by assumption) | exact Sl.back (by first | assumption | exact Ext.drew' (by assumption) | exact Ext.undrew (by assumption)) (by first | assumption | exact Own.sl (by assumption) | exact Sl.back (by first | assumption | exact Ext.drew' (by assumption) | exact Ext.undrew (by assumption)) (by first | assumption | exact Own.sl (by assumption))))))))) (by first | rw [List.length_map] | rfl) ?_; try (conv in (Act.put _ _ _) => simp only [Act.put, List.setIfInBounds_toArray, List.set_cons_succ, List.set_cons_zero]))
        | ((with_reducible refine g_at (d := 17) ?_); refine wpl_len rfl Tryd.underlying22 (by first | assumption | exact Own.sl (by assumption) | exact Sl.back (by first | assumption | exact Ext.drew' (by assumption) | exact Ext.undrew (by assumption)) (by first | assumption | exact Own.sl (by assumption) | exact Sl.back (by first | assumption | exact Ext.drew' (by assumption) | exact Ext.undrew (by assumption)) (by first | assumption | exact Own.sl (by assumption) | exact Sl.back (by first | assumption | exact Ext.drew' (by assumption) | exact Ext.undrew (by assumption)) (by first | assumption | exact Own.sl (by assumption) | exact Sl.back (by first | assumption | exact Ext.drew' (by assumption) | exact Ext.undrew (by assumption)) (by first | assumption | exact Own.sl (by assumption) | exact Sl.back (by first | assumption | exact Ext.drew' (by assumption) | exact Ext.undrew (by assumption)) (by first | assumption | exact Own.sl (by assumption) | exact Sl.back (by first | assumption | exact Ext.drew' (by assumption) | exact Ext.undrew (by assumption)) (by first | assumption | exact Own.sl (by assumption) | exact Sl.back (by first | assumption | exact Ext.drew' (by assumption) | exact Ext.undrew (by assumption)) (by first | assumption | exact Own.sl (by assumption))))))))) (by first | rw [List.length_map] | rfl) ?_; try (conv in (Act.put _ _ _) => simp only [Act.put, List.setIfInBounds_toArray, List.set_cons_succ, List.set_cons_zero])))
      rw [hvl]
      have hxx := hx.tr hx24
      have ho0 := h24.down hx.size
      clear hx hx24 h24
      go_loopw [6, 27] (fun o i wq => ∃ k : Nat, k ≤ ls.length ∧ i = .int .i64 k ∧ Own wq w.heap.size 5 o ((ls.take k).flatten.map bU) ∧ Ext w wq) (fun _ i _ => ls.length - (RowKit.intOf i).toNat)
      case atStart => exact ⟨0, Nat.zero_le _, rfl, by simpa using ho0, hxx⟩
      case round =>
        obtain ⟨k, hk, rfl, ho, hx⟩ := hrel
        by_cases hlt : k < ls.length
        · obtain ⟨Bi, hsi⟩ := hvs.2 k hlt
          have hf := flat_take ls k hlt
          have hle := flat_le ls (k + 1)
          generalize ls.getD k [] = x at *
          rw [hf, List.length_append] at hle
          have HF := Lib.hid hf
          clear hf
          generalize (ls.take k).flatten = X at *
          have hb9 : (List.map bU X).length + (List.map bU x).length ≤ 1000000000 := by rw [List.length_map, List.length_map]; have h1 := HS.out; have h2 := HB.out; omega
          go_wp2_with (first
            | ((with_reducible refine g_at (d := 29) ?_); refine wpl_index rfl rfl Tryd.underlying55 hi22 hs22 (hv.ext hx) rfl (vget hvl hlt) ?_; intro ad29 hb29 hc29; try (conv in (Act.put _ _ _) => simp only [Act.put, List.setIfInBounds_toArray, List.set_cons_succ, List.set_cons_zero]))
            | ((with_reducible refine g_at (d := 30) ?_); refine wpl_load1 rfl Tryd.underlying22 rfl hc29 ?_; try (conv in (Act.put _ _ _) => simp only [Act.put, List.setIfInBounds_toArray, List.set_cons_succ, List.set_cons_zero]))
            | ((with_reducible refine g_at (d := 33) ?_); refine wpl_append (v := u6) rfl rfl Tryd.underlying22 hi5 hz5 hs5 hb5 rfl ho (hsi.ext hx) (bU_one x) (by first | omega | (simp <;> omega)) (by omega) hx.size ?_; intro v33 w33 h33 hg33 ha33 hx33; try (conv in (Act.put _ _ _) => simp only [Act.put, List.setIfInBounds_toArray, List.set_cons_succ, List.set_cons_zero]))
            | ((with_reducible refine g_at (d := 10) ?_); refine wpl_len rfl Tryd.underlying55 (by first | assumption | exact Own.sl (by assumption) | exact Sl.back (by first | assumption | exact Ext.drew' (by assumption) | exact Ext.undrew (by assumption)) (by first | assumption | exact Own.sl (by assumption) | exact Sl.back (by first | assumption | exact Ext.drew' (by assumption) | exact Ext.undrew (by assumption)) (by first | assumption | exact Own.sl (by assumption) | exact Sl.back (by first | assumption | exact Ext.drew' (by assumption) | exact Ext.undrew (by assumption)) (by first | assumption | exact Own.sl (by assumption) | exact Sl.back (by first | assumption | exact Ext.drew' (by assumption) | exact Ext.undrew (by assumption)) (by first | assumption | exact Own.sl (by assumption) | exact Sl.back (by first | assumption | exact Ext.drew' (by assumption) | exact Ext.undrew (by assumption)) (by first | assumption | exact Own.sl (by assumption) | exact Sl.back (by first | assumption | exact Ext.drew' (by assumption) | exact Ext.undrew (by assumption)) (by first | assumption | exact Own.sl (by assumption) | exact Sl.back (by first | assumption | exact Ext.drew' (by assumption) | exact Ext.undrew (by assumption)) (by first | assumption | exact Own.sl (by assumption))))))))) (by first | rw [List.length_map] | rfl) ?_; try (conv in (Act.put _ _ _) => simp only [Act.put, List.setIfInBounds_toArray, List.set_cons_succ, List.set_cons_zero]))
            | ((with_reducible refine g_at (d := 17) ?_); refine wpl_len rfl Tryd.underlying22 (by first | assumption | exact Own.sl (by assumption) | exact Sl.back (by first | assumption | exact Ext.drew' (by assumption) | exact Ext.undrew (by assumption)) (by first | assumption | exact Own.sl (by assumption) | exact Sl.back (by first | assumption | exact Ext.drew' (by assumption) | exact Ext.undrew (by assumption)) (by first | assumption | exact Own.sl (by assumption) | exact Sl.back (by first | assumption | exact Ext.drew' (by assumption) | exact Ext.undrew (by assumption)) (by first | assumption | exact Own.sl (by assumption) | exact Sl.back (by first | assumption | exact Ext.drew' (by assumption) | exact Ext.undrew (by assumption)) (by first | assumption | exact Own.sl (by assumption) | exact Sl.back (by first | assumption | exact Ext.drew' (by assumption) | exact Ext.undrew (by assumption)) (by first | assumption | exact Own.sl (by assumption) | exact Sl.back (by first | assumption | exact Ext.drew' (by assumption) | exact Ext.undrew (by assumption)) (by first | assumption | exact Own.sl (by assumption) | exact Sl.back (by first | assumption | exact Ext.drew' (by assumption) | exact Ext.undrew (by assumption)) (by first | assumption | exact Own.sl (by assumption))))))))) (by first | rw [List.length_map] | rfl) ?_; try (conv in (Act.put _ _ _) => simp only [Act.put, List.setIfInBounds_toArray, List.set_cons_succ, List.set_cons_zero]))
            | ((with_reducible refine g_at (d := 26) ?_); refine wpl_len rfl Tryd.underlying55 (by first | assumption | exact Own.sl (by assumption) | exact Sl.back (by first | assumption | exact Ext.drew' (by assumption) | exact Ext.undrew (by assumption)) (by first | assumption | exact Own.sl (by assumption) | exact Sl.back (by first | assumption | exact Ext.drew' (by assumption) | exact Ext.undrew (by assumption)) (by first | assumption | exact Own.sl (by assumption) | exact Sl.back (by first | assumption | exact Ext.drew' (by assumption) | exact Ext.undrew (by assumption)) (by first | assumption | exact Own.sl (by assumption) | exact Sl.back (by first | assumption | exact Ext.drew' (by assumption) | exact Ext.undrew (by assumption)) (by first | assumption | exact Own.sl (by assumption) | exact Sl.back (by first | assumption | exact Ext.drew' (by assumption) | exact Ext.undrew (by assumption)) (by first | assumption | exact Own.sl (by assumption) | exact Sl.back (by first | assumption | exact Ext.drew' (by assumption) | exact Ext.undrew (by assumption)) (by first | assumption | exact Own.sl (by assumption) | exact Sl.back (by first | assumption | exact Ext.drew' (by assumption) | exact Ext.undrew (by assumption)) (by first | assumption | exact Own.sl (by assumption))))))))) (by first | rw [List.length_map] | rfl) ?_; try (conv in (Act.put _ _ _) => simp only [Act.put, List.setIfInBounds_toArray, List.set_cons_succ, List.set_cons_zero])))
          go_roundw
          case rel => exact ⟨k + 1, by omega, by go_num, by rw [HF.out, List.map_append]; exact h33, hx.trans hx33⟩
          case measure => simp [RowKit.intOf]; omega
        · obtain rfl : k = ls.length := by omega
          rw [List.take_length] at ho
          go_wp2
          go_ret
          exact ⟨_, rfl, hx, ho⟩
end Go.Proofs.YtamddohbpdbdmaaDoor
end
section
set_option linter.unusedVariables false
set_option linter.unusedSimpArgs false
namespace Go.Proofs.YtamddohbpdbdmaaDoor
open Go.RowKit Go.Ch Go.Sx

theorem cloneb_info : (Tryd.prog.info? 5).map (fun i => (i.zero, i.size, i.bytes)) = some (some (.int .u8 0), 1, 1) := by kernel_rfl
set_option maxHeartbeats 400000 in
set_option maxRecDepth 100000 in
theorem cloneb_c (w : World) (B : Nat) (v : Value) (l : List UInt8) (hv : Sl w B v (l.map bU)) (hl : l.length ≤ 1000000000000) :
    Calls Tryd.prog 26 #[v] w (Ret fun v' w' => Ext w w' ∧ Own w' w.heap.size 5 v' (l.map bU)) := by
  obtain ⟨i5, hi5, hz5, hs5, hb5⟩ := info_parts cloneb_info
  go_enter Tryd.func26, Tryd.ntmps26
  go_wp2_with (first
    | ((with_reducible refine g_at (d := 4) ?_); refine wpl_eq_nil rfl Tryd.underlying22 hv ?_; intro b4 hb4; try (conv in (Act.put _ _ _) => simp only [Act.put, List.setIfInBounds_toArray, List.set_cons_succ, List.set_cons_zero]))
    | ((with_reducible refine g_at (d := 5) ?_); refine wpl_buildSlice (vs := []) Tryd.underlying22 hi5 hz5 hs5 rfl (xs := []) rfl rfl rfl (by simp) (by omega) ?_; intro v5 w5 h5 hx5 ha5; try (conv in (Act.put _ _ _) => simp only [Act.put, List.setIfInBounds_toArray, List.set_cons_succ, List.set_cons_zero]))
    | ((with_reducible refine g_at (d := 7) ?_); refine wpl_append (v := v5) rfl rfl Tryd.underlying22 hi5 hz5 hs5 hb5 rfl h5 (hv.ext hx5) (bU_one l) (by first | omega | (simp <;> omega)) (by omega) hx5.size ?_; intro v7 w7 h7 hg7 ha7 hx7; try (conv in (Act.put _ _ _) => simp only [Act.put, List.setIfInBounds_toArray, List.set_cons_succ, List.set_cons_zero])))
  · go_ret
    have := hb4 (by assumption)
    exact ⟨_, rfl, Below.refl _ _, by rw [this]; exact World.ownsRow_nil _ _ _ _⟩
  · go_ret
    exact ⟨_, rfl, hx5.trans hx7, by simpa using h7⟩
def cloneb_ct : Ct := fun args H => match args with
  | [x] => (match aB H x with | some l => some ([l.length ≤ 1000000000000], .c (.wh H.length), [⟨.row, 5, 1, l.length, .b l⟩]) | none => none)
  | _ => none
theorem cloneb_h : FnOk Tryd.prog Tr 26 cloneb_ct := by
  refine ⟨fun args H g av objs hF hg ρ w vals hG hp ha => ?_, _, Tryd.func26, by kernel_rfl, by kernel_rfl⟩
  unfold cloneb_ct at hF
  split at hF
  · split at hF
    · rename_i x l hl
      simp only [Option.some.injEq, Prod.mk.injEq] at hF
      obtain ⟨rfl, rfl, rfl⟩ := hF
      obtain ⟨v, vals, rfl, k, ha⟩ := F2.inv ha
      obtain rfl := F2.inv0 ha
      obtain ⟨p, hI⟩ := aB_ok hp hl k 5
      have hb : l.length ≤ 1000000000000 := by simpa [allP] using hg
      exact calls_mono (cloneb_c w _ v l (hI.sl (fun _ _ h => csR_b.1 h) (by simp)) hb) fun v w' ⟨hx, hv⟩ => ⟨hx, left_row hv (fun _ => csR_b.2 rfl) (by simp)⟩
    · cases hF
  · cases hF
end Go.Proofs.YtamddohbpdbdmaaDoor
end
section
set_option linter.unusedVariables false
set_option linter.unusedSimpArgs false
namespace Go.Proofs.YtamddohbpdbdmaaDoor
open Go.RowKit Go.Ch Go.Sx

theorem slr_sl {w : World} {v : Value} {n : Nat} {vs : List Value} (h : SlR w v n 1 vs) : Sl w w.heap.size v vs := by
  obtain ⟨hl, A, c, rfl, h1, h2, h3, h4⟩ := h
  have hn : vs.length = n := by omega
  subst hn
  refine ⟨Nat.le_refl _, A, c, rfl, h1, h2, h3, fun ad had j u hu => ⟨?_, h4 ad had j u hu⟩⟩
  have := World.block_lt_of_cell? _ _ (h4 ad had j u hu)
  rwa [block_add] at this
/-- what slices of bytes read -/
def aLs (H : Hp) : List Cl → Option (List (List UInt8))
  | [] => some []
  | c :: cs => (match aB H (.c c), aLs H cs with | some l, some ls => some (l :: ls) | _, _ => none)
theorem aLs_ok {ρ : Pls} {w : World} {H : Hp} (hp : HpR ρ w H) : ∀ {cs : List Cl} {ls : List (List UInt8)} {vs : List Value}, aLs H cs = some ls → F2 (clR ρ) cs vs → SlS w vs ls
  | [], ls, vs, h, hv => by
    obtain rfl := F2.unnil hv
    simp only [aLs, Option.some.injEq] at h
    subst h
    exact ⟨rfl, fun i hi => by simp at hi⟩
  | c :: cs, ls, vs, h, hv => by
    obtain ⟨v, vs', rfl, hc, hvs⟩ := F2.uncons hv
    simp only [aLs] at h
    split at h
    · rename_i l ls' hl hls
      injection h with h; subst h
      obtain ⟨h1, h2⟩ := aLs_ok hp hls hvs
      obtain ⟨p, hI⟩ := aB_ok hp hl hc 5
      have hs := hI.sl (fun _ _ h => csR_b.1 h) (by simp)
      refine ⟨by simp [h1], fun i hi => ?_⟩
      cases i with
      | zero => exact ⟨_, hs⟩
      | succ i => exact h2 i (by simpa using hi)
    · cases h
def cat_ct : Ct := fun args H => match args with
  | [.c x] => (match vcs H x with
    | some (sz, _, .c cells) => (match Nat.beq sz 1, aLs H cells with
      | true, some ls => some ([ls.length ≤ 1000000, ls.flatten.length ≤ 1000000000], .c (.wh H.length), [⟨.row, 5, 1, ls.flatten.length, .b ls.flatten⟩])
      | _, _ => none)
    | _ => none)
  | _ => none
theorem cat_h : FnOk Tryd.prog Tr 20 cat_ct := by
  refine ⟨fun args H g av objs hF hg ρ w vals hG hp ha => ?_, _, Tryd.func20, by kernel_rfl, by kernel_rfl⟩
  unfold cat_ct at hF
  split at hF
  · rename_i x
    split at hF
    · rename_i sz n cells hx
      split at hF
      · rename_i ls hsz hls
        simp only [Option.some.injEq, Prod.mk.injEq] at hF
        obtain ⟨rfl, rfl, rfl⟩ := hF
        obtain ⟨v, vals, rfl, k, ha⟩ := F2.inv ha
        obtain rfl := F2.inv0 ha
        have e1 := Nat.eq_of_beq_eq_true hsz
        subst e1
        obtain ⟨vs, hc, hS⟩ := vcs_ok hp hx k
        obtain ⟨g1, g2⟩ : ls.length ≤ 1000000 ∧ ls.flatten.length ≤ 1000000000 := by simpa [allP] using hg
        exact calls_mono (concat_c w _ v vs ls (slr_sl hS) (aLs_ok hp hls hc) g1 g2) fun v w' ⟨hx, hv⟩ => ⟨hx, left_row hv (fun _ => csR_b.2 rfl) (by rw [List.length_map])⟩
      · cases hF
    · cases hF
  · cases hF
end Go.Proofs.YtamddohbpdbdmaaDoor
end
section
set_option linter.unusedVariables false
set_option linter.unusedSimpArgs false
namespace Go.Proofs.YtamddohbpdbdmaaDoor
open Go.RowKit Go.Ch Go.Sx

def tabL_ma : List (TypeId × Ti) := [(3, ⟨.int .i64, 1, 8, true, some [.int .i64]⟩),
  (5, ⟨.int .u8, 1, 1, true, some [.int .u8]⟩),
  (9, ⟨.str, 1, 16, true, some [.str]⟩),
  (22, ⟨.sl 5, 1, 24, false, some [.nils]⟩),
  (35, ⟨.ifc, 1, 16, true, some [.ifc]⟩),
  (38, ⟨.int .i64, 1, 8, true, some [.int .i64]⟩),
  (55, ⟨.sl 22, 1, 24, false, some [.nils]⟩)]
def tab_ma : Tab := fun t => (tabL_ma).lookup t
theorem tabE_ma : (tabL_ma.map fun p => tiOf Tryd.prog p.1) = tabL_ma.map fun p => some p.2 := by kernel_rfl
theorem tabO_ma : TabOk Tryd.prog tab_ma := tab_of tabE_ma

def mpadded_l1 (n : Nat) (a1 : UInt8) : Nat → List UInt8 → Int → Option (List UInt8)
  | 0, _, _ => none
  | fu_l1 + 1, l5_2, i18_2 =>
    bif (decide (i18_2 < (64 : Int))) then
      gd (0 ≤ i18_2) <|
      gd (i18_2 < (64 : Int)) <|
      gd (0 ≤ i18_2) <|
      gd (i18_2 < (64 : Int)) <|
      gd (okI .i64 (i18_2 + 1)) <|
      (mpadded_l1 n a1 fu_l1) (l5_2.set i18_2.toNat ((l5_2.getD i18_2.toNat 0) ^^^ a1)) (i18_2 + 1)
    else
      some l5_2
def mpadded_j1 (n : Nat) (a1 : UInt8) (l0_2 : List UInt8) : Option (List UInt8) :=
  gd (0 ≤ (64 : Int)) <|
  gd ((64 : Int) = (64 : Int)) <|
  gd (rmB 64 1) <|
  mpadded_l1 n a1 n (((List.replicate 64 0).take 0 ++ l0_2.take (min l0_2.length 64)) ++ (List.replicate 64 0).drop (0 + (min l0_2.length 64))) 0
def mpadded (n : Nat) (a0 : List UInt8) (a1 : UInt8) : Option (List UInt8) :=
  bif (decide ((64 : Int) < ((a0.length : Nat) : Int))) then
    gd ((a0).length ≤ 100000) <|
    mpadded_j1 n a1 (digest consts begin8 a0)
  else
    mpadded_j1 n a1 a0
def mMark (n : Nat) (a0 : List UInt8) (a1 : List UInt8) : Option (List UInt8) :=
  (mpadded n a0 54).bind fun r7 =>
  gd ((([r7, a1] : List (List UInt8))).length ≤ 1000000) <|
  gd ((([r7, a1] : List (List UInt8))).flatten.length ≤ 1000000000) <|
  gd ((((([r7, a1] : List (List UInt8))).flatten)).length ≤ 100000) <|
  (mpadded n a0 92).bind fun r13 =>
  gd ((([r13, (digest consts begin8 ((([r7, a1] : List (List UInt8))).flatten))] : List (List UInt8))).length ≤ 1000000) <|
  gd ((([r13, (digest consts begin8 ((([r7, a1] : List (List UInt8))).flatten))] : List (List UInt8))).flatten.length ≤ 1000000000) <|
  gd ((((([r13, (digest consts begin8 ((([r7, a1] : List (List UInt8))).flatten))] : List (List UInt8))).flatten)).length ≤ 100000) <|
  some (digest consts begin8 ((([r13, (digest consts begin8 ((([r7, a1] : List (List UInt8))).flatten))] : List (List UInt8))).flatten))
def mmay (n : Nat) (a0 : Int) : Option (Option Int) :=
  bif (decide (a0 < (1 : Int))) then
    some (some 1)
  else
    bif (decide ((10000 : Int) < a0)) then
      some (some 4)
    else
      some none
def mDerive_l3 (n : Nat) (a0 : List UInt8) (a1 : List UInt8) (a2 : Int) (a3 : Int) (l11_1 : List UInt8) (i12_1 : Int) (r48_2 : List UInt8) (i53_5 : Int) (r57_8 : List UInt8) (k_l2 : (List UInt8) → (List UInt8) → Int → Option (List UInt8 × Nat × Option Int)) : Nat → List UInt8 → Int → Option (List UInt8 × Nat × Option Int)
  | 0, _, _ => none
  | fu_l3 + 1, l14_23, i60_17 =>
    bif (decide (i60_17 < (((r48_2).length : Nat) : Int))) then
      gd (0 ≤ i60_17) <|
      gd (i60_17 < (((r48_2).length : Nat) : Int)) <|
      gd (0 ≤ i60_17) <|
      gd (i60_17 < ((r57_8.length : Nat) : Int)) <|
      gd (0 ≤ i60_17) <|
      gd (i60_17 < (((r48_2).length : Nat) : Int)) <|
      gd (okI .i64 (i60_17 + 1)) <|
      (mDerive_l3 n a0 a1 a2 a3 l11_1 i12_1 r48_2 i53_5 r57_8 k_l2 fu_l3) (l14_23.set i60_17.toNat ((l14_23.getD i60_17.toNat 0) ^^^ (r57_8.getD i60_17.toNat 0))) (i60_17 + 1)
    else
      gd (okI .i64 (i53_5 + 1)) <|
      k_l2 r57_8 l14_23 (i53_5 + 1)
def mDerive_l2 (n : Nat) (a0 : List UInt8) (a1 : List UInt8) (a2 : Int) (a3 : Int) (l11_1 : List UInt8) (i12_1 : Int) (r48_2 : List UInt8) (k_l1 : (List UInt8) → Int → Option (List UInt8 × Nat × Option Int)) : Nat → List UInt8 → List UInt8 → Int → Option (List UInt8 × Nat × Option Int)
  | 0, _, _, _ => none
  | fu_l2 + 1, l13_5, l14_21, i53_5 =>
    bif (decide (i53_5 < (a2 - 1))) then
      (mMark n a0 l13_5).bind fun r57_8 =>
      mDerive_l3 n a0 a1 a2 a3 l11_1 i12_1 r48_2 i53_5 r57_8 (mDerive_l2 n a0 a1 a2 a3 l11_1 i12_1 r48_2 k_l1 fu_l2) n l14_21 0
    else
      gd (rmB (l11_1.length + ((r48_2).length)) 1) <|
      gd (okI .i64 (i12_1 + 1)) <|
      k_l1 (l11_1 ++ l14_21) (i12_1 + 1)
def mDerive_l1 (n : Nat) (a0 : List UInt8) (a1 : List UInt8) (a2 : Int) (a3 : Int) : Nat → List UInt8 → Int → Option (List UInt8 × Nat × Option Int)
  | 0, _, _ => none
  | fu_l1 + 1, l11_1, i12_1 =>
    bif (decide (((l11_1.length : Nat) : Int) < a3)) then
      gd (0 ≤ (8 : Int)) <|
      gd ((8 : Int) ≤ (((IntKind.i64).bits : Nat) : Int)) <|
      gd ((([a1, [0, 0, (UInt8.ofInt (i12_1 / 2 ^ 8)), (UInt8.ofInt i12_1)]] : List (List UInt8))).length ≤ 1000000) <|
      gd ((([a1, [0, 0, (UInt8.ofInt (i12_1 / 2 ^ 8)), (UInt8.ofInt i12_1)]] : List (List UInt8))).flatten.length ≤ 1000000000) <|
      (mMark n a0 ((([a1, [0, 0, (UInt8.ofInt (i12_1 / 2 ^ 8)), (UInt8.ofInt i12_1)]] : List (List UInt8))).flatten)).bind fun r48_2 =>
      gd ((r48_2).length ≤ 1000000000000) <|
      gd (okI .i64 (a2 - 1)) <|
      mDerive_l2 n a0 a1 a2 a3 l11_1 i12_1 r48_2 (mDerive_l1 n a0 a1 a2 a3 fu_l1) n r48_2 (r48_2) 0
    else
      gd (0 ≤ a3) <|
      gd (a3 ≤ a3) <|
      gd (a3 ≤ ((l11_1.length : Nat) : Int)) <|
      some (l11_1, a3.toNat, none)
def mDerive (n : Nat) (a0 : List UInt8) (a1 : List UInt8) (a2 : Int) (a3 : Int) : Option (List UInt8 × Nat × Option Int) :=
  bif (decide (a3 < (0 : Int))) then
    some ([], 0, (some 1))
  else
    bif (decide (a2 < (1 : Int))) then
      some ([], 0, (some 1))
    else
      (mmay n a2).bind fun r24 =>
      bif (!((r24).isNone)) then
        some ([], 0, (some 4))
      else
        bif (decide ((256 : Int) < a3)) then
          some ([], 0, (some 4))
        else
          mDerive_l1 n a0 a1 a2 a3 n [] 1
def mup (n : Nat) : Option (Bool) :=
  (mDerive n [112, 97, 115, 115, 119, 100] [115, 97, 108, 116] 1 16).bind fun r10 =>
  (mMark n [74, 101, 102, 101] [119, 104, 97, 116, 32, 100, 111, 32, 121, 97, 32, 119, 97, 110, 116, 32, 102, 111, 114, 32, 110, 111, 116, 104, 105, 110, 103, 63]).bind fun r17 =>
  bif (r17 == ([91, 220, 193, 70, 191, 96, 117, 78, 106, 4, 36, 38, 8, 149, 117, 199, 90, 0, 63, 8, 157, 39, 57, 131, 157, 236, 88, 185, 100, 236, 56, 67] : List UInt8)) then
    bif ((r10.2.2).isNone) then
      some (((r10.1.drop 0).take r10.2.1) == ([85, 172, 4, 110, 86, 227, 8, 159, 236, 22, 145, 194, 37, 68, 182, 5] : List UInt8))
    else
      some false
  else
    some false

def mpadded_l1_E (a1 : UInt8) (l5_2 : List UInt8) (i18_2 : Int) : S := ⟨[(1, .c (.s (.u8 a1))), (5, .c (.wh 0)), (17, .c (.s (.k .i64 64))), (18, .c (.s (.k .i64 i18_2)))], [], [⟨.row, 5, 1, 64, .b l5_2⟩]⟩
def mpadded_l1_P (n : Nat) (a1 : UInt8) (r : List UInt8) (fu : Nat) : S → Prop := fun s => ∃ (l5_2 : List UInt8), ∃ (i18_2 : Int), s = mpadded_l1_E a1 l5_2 i18_2 ∧ mpadded_l1 n a1 fu l5_2 i18_2 = some r
theorem mpadded_l1_M {n : Nat} {a1 : UInt8} {l5_2 : List UInt8} {i18_2 : Int} {r : List UInt8} {fu : Nat} (h : mpadded_l1 n a1 fu l5_2 i18_2 = some r) : mpadded_l1_P n a1 r fu (mpadded_l1_E a1 l5_2 i18_2) := ⟨l5_2, i18_2, rfl, h⟩
def mpadded_j1_E (a1 : UInt8) (l0_2 : List UInt8) : S := ⟨[(0, .c (.wh 0)), (1, .c (.s (.u8 a1)))], [], [⟨(.ro false), 5, 1, l0_2.length, .b l0_2⟩]⟩
def mpadded_j1_P (n : Nat) (a1 : UInt8) (r : List UInt8) : S → Prop := fun s => ∃ (l0_2 : List UInt8), s = mpadded_j1_E a1 l0_2 ∧ mpadded_j1 n a1 l0_2 = some r
theorem mpadded_j1_M {n : Nat} {a1 : UInt8} {l0_2 : List UInt8} {r : List UInt8} (h : mpadded_j1 n a1 l0_2 = some r) : mpadded_j1_P n a1 r (mpadded_j1_E a1 l0_2) := ⟨l0_2, rfl, h⟩
def mpadded_R (r : List UInt8) : S := ⟨[(4, .c (.wh 0))], [], [⟨.row, 5, 1, 64, .b r⟩]⟩
def mpadded_ct (n : Nat) (r : List UInt8) : Ct := fun args H => match args with
  | [x0, x1] => (match aB H x0 with | some l0 => (match aU8 x1 with | some l1 => some ([mpadded n l0 l1 = some r], shA H.length (.c (.wh 0)), shH H.length [⟨.row, 5, 1, 64, .b r⟩]) | none => none) | none => none)
  | _ => none
theorem mpadded_ok (n : Nat) (r : List UInt8) : FnOk Tryd.prog GK 21 (mpadded_ct n r) := by
  refine ⟨fun args H g av objs hF hg ρ w vals hG hp ha => ?_, _, Tryd.func21, by kernel_rfl, by kernel_rfl⟩
  obtain ⟨x0, x1, rfl⟩ : ∃ x0 x1, args = [x0, x1] := by
    unfold mpadded_ct at hF; split at hF
    · exact ⟨_, _, rfl⟩
    · cases hF
  cases e0 : aB H x0 with
  | none => simp only [mpadded_ct, e0, reduceCtorEq] at hF
  | some l0 =>
  cases e1 : aU8 x1 with
  | none => simp only [mpadded_ct, e0, e1, reduceCtorEq] at hF
  | some l1 =>
  simp only [mpadded_ct, e0, e1, Option.some.injEq, Prod.mk.injEq] at hF
  obtain ⟨rfl, rfl, rfl⟩ := hF
  obtain ⟨v0, vals, rfl, k0, ha⟩ := F2.inv ha
  obtain ⟨v1, vals, rfl, k1, ha⟩ := F2.inv ha
  obtain rfl := F2.inv0 ha
  have hI : ∀ w', Kp (noB (fun _ => undef)) w w' → GK w' := fun _ hk => GK.keep hk.below hG
  have h : mpadded n l0 l1 = some r := hg
  obtain ⟨p0, s0, o0⟩ := aB_ok hp e0 (k0) 5
  have s1 := aU8_ok e1 (k1)
  have hR0 := rel0 (gv := (fun _ => undef)) (n := 30) (w := w) (args := [.c (.wh 0), .c (.s (.u8 l1))]) (H := [⟨.ro false, 5, 1, l0.length, .b l0⟩]) (gl := []) (hpL (ps := [p0]) (F2.cons o0 F2.nil)) (allRo_ok rfl) (F2.cons s0 (F2.cons s1 F2.nil)) GlR.nil (by simp)
  clear ha hp hg k0 k1 e0 e1
  refine calls_W Tryd.func21 rfl rfl hR0 (Q := fun e s => (e = .ret ∨ e = .normal) ∧ s = mpadded_R r) ?_ ?_
  · clear hR0
    unfold mpadded at h
    have hT := tabO_ma
    refine W_seq ?_
    refine W_reg hT ftL_nil [] [] [0, 1] [0] (s' := ⟨[(0, .c (.wh 0)), (1, .c (.s (.u8 l1)))], [], [⟨(.ro false), 5, 1, l0.length, .b l0⟩]⟩) (by kernel_rfl) allP_nil ?_
    refine W_join (mpadded_j1_P n l1 r) ?_ ?_
    · rintro _ ⟨l0_2, rfl, h⟩
      unfold mpadded_j1 at h
      refine W_seq ?_
      obtain ⟨g1, h⟩ := gd_some h
      obtain ⟨g2, h⟩ := gd_some h
      obtain ⟨g3, h⟩ := gd_some h
      refine W_reg hT ftL_nil [] [] [0, 1, 5] [0, 1] (s' := ⟨[(0, .c (.wh 0)), (1, .c (.s (.u8 l1))), (5, .c (.wh 1))], [], [⟨(.ro false), 5, 1, l0_2.length, .b l0_2⟩, ⟨.row, 5, 1, 64, .b (List.replicate 64 0)⟩]⟩) (by kernel_rfl) (allP_cons.2 ⟨g1, (allP_cons.2 ⟨g2, (allP_cons.2 ⟨g3, allP_nil⟩)⟩)⟩) ?_
      refine W_seq ?_
      refine W_reg hT ftL_nil [] [] [1, 5] [1] (s' := ⟨[(1, .c (.s (.u8 l1))), (5, .c (.wh 0))], [], [⟨.row, 5, 1, 64, .b (((List.replicate 64 0).take 0 ++ l0_2.take (min l0_2.length 64)) ++ (List.replicate 64 0).drop (0 + (min l0_2.length 64)))⟩]⟩) (by kernel_rfl) allP_nil ?_
      refine W_seq ?_
      refine W_seq ?_
      refine W_reg hT ftL_nil [] [] [1, 5, 17, 18] [0] (s' := ⟨[(1, .c (.s (.u8 l1))), (5, .c (.wh 0)), (17, .c (.s (.k .i64 64))), (18, .c (.s (.k .i64 0)))], [], [⟨.row, 5, 1, 64, .b (((List.replicate 64 0).take 0 ++ l0_2.take (min l0_2.length 64)) ++ (List.replicate 64 0).drop (0 + (min l0_2.length 64)))⟩]⟩) (by kernel_rfl) allP_nil ?_
      refine W_block ?_
      refine W_co [] [1, 5, 17, 18] [0] (s' := (mpadded_l1_E l1 (((List.replicate 64 0).take 0 ++ l0_2.take (min l0_2.length 64)) ++ (List.replicate 64 0).drop (0 + (min l0_2.length 64))) 0)) (by kernel_rfl) (W_lp ((mpadded_l1_P n l1 r)) n (mpadded_l1_M h) ?_)
      rintro fu_l1 _ ⟨l5_2, i18_2, rfl, h⟩
      cases fu_l1 with
      | zero => cases h
      | succ fu_l1 =>
        refine ⟨fu_l1, rfl, ?_⟩
        rw [mpadded_l1] at h
        refine W_seq ?_
        refine W_reg hT ftL_nil [] [] [1, 5, 17, 18, 19] [0] (s' := ⟨[(1, .c (.s (.u8 l1))), (5, .c (.wh 0)), (17, .c (.s (.k .i64 64))), (18, .c (.s (.k .i64 i18_2))), (19, .c (.s (.b (decide (i18_2 < (64 : Int))))))], [], [⟨.row, 5, 1, 64, .b l5_2⟩]⟩) (by kernel_rfl) allP_nil ?_
        refine W_seq ?_
        refine W_cond (b := (decide (i18_2 < (64 : Int)))) (by kernel_rfl) (fun g9 => ?_) (fun g9 => ?_)
        · replace h := bif_t h g9
          refine W_co [] [1, 5, 17, 18] [0] (s' := ⟨[(1, .c (.s (.u8 l1))), (5, .c (.wh 0)), (17, .c (.s (.k .i64 64))), (18, .c (.s (.k .i64 i18_2)))], [], [⟨.row, 5, 1, 64, .b l5_2⟩]⟩) (by kernel_rfl) (W_skip ?_)
          refine W_seq ?_
          refine W_block ?_
          refine W_seq ?_
          refine W_reg hT ftL_nil [] [] [1, 5, 6, 17, 18] [0] (s' := ⟨[(1, .c (.s (.u8 l1))), (5, .c (.wh 0)), (6, .c (.s (.k .i64 i18_2))), (17, .c (.s (.k .i64 64))), (18, .c (.s (.k .i64 i18_2)))], [], [⟨.row, 5, 1, 64, .b l5_2⟩]⟩) (by kernel_rfl) allP_nil ?_
          obtain ⟨g4, h⟩ := gd_some h
          obtain ⟨g5, h⟩ := gd_some h
          obtain ⟨g6, h⟩ := gd_some h
          obtain ⟨g7, h⟩ := gd_some h
          refine W_reg hT ftL_nil [] [] [1, 5, 17, 18] [0] (s' := ⟨[(1, .c (.s (.u8 l1))), (5, .c (.wh 0)), (17, .c (.s (.k .i64 64))), (18, .c (.s (.k .i64 i18_2)))], [], [⟨.row, 5, 1, 64, .b (l5_2.set i18_2.toNat ((l5_2.getD i18_2.toNat 0) ^^^ l1))⟩]⟩) (by kernel_rfl) (allP_cons.2 ⟨g4, (allP_cons.2 ⟨g5, (allP_cons.2 ⟨g6, (allP_cons.2 ⟨g7, allP_nil⟩)⟩)⟩)⟩) ?_
          obtain ⟨g8, h⟩ := gd_some h
          refine W_reg hT ftL_nil [] [] [1, 5, 17, 18] [0] (s' := (mpadded_l1_E l1 (l5_2.set i18_2.toNat ((l5_2.getD i18_2.toNat 0) ^^^ l1)) (i18_2 + 1))) (by kernel_rfl) (allP_cons.2 ⟨g8, allP_nil⟩) ?_
          exact mpadded_l1_M h
        · replace h := bif_f h g9
          refine W_co [] [5] [0] (s' := ⟨[(5, .c (.wh 0))], [], [⟨.row, 5, 1, 64, .b l5_2⟩]⟩) (by kernel_rfl) (W_exit ?_)
          refine W_seq ?_
          refine W_reg hT ftL_nil [] [] [4] [0] (s' := ⟨[(4, .c (.wh 0))], [], [⟨.row, 5, 1, 64, .b l5_2⟩]⟩) (by kernel_rfl) allP_nil ?_
          refine W_co [] [4] [0] (s' := (mpadded_R l5_2)) (by kernel_rfl) (W_ret ?_)
          exact ⟨.inl rfl, by cases h; rfl⟩
    · refine W_seq ?_
      refine W_reg hT ftL_nil [] [] [0, 1, 9] [0] (s' := ⟨[(0, .c (.wh 0)), (1, .c (.s (.u8 l1))), (9, .c (.s (.b (decide ((64 : Int) < ((l0.length : Nat) : Int))))))], [], [⟨(.ro false), 5, 1, l0.length, .b l0⟩]⟩) (by kernel_rfl) allP_nil ?_
      refine W_cond (b := (decide ((64 : Int) < ((l0.length : Nat) : Int)))) (by kernel_rfl) (fun g11 => ?_) (fun g11 => ?_)
      · replace h := bif_t h g11
        obtain ⟨g10, h⟩ := gd_some h
        refine W_reg hT (ftL_cons (k := 1) (f := 19) (F := sum_ct) sum_h hI ftL_nil) [] [.vw 0 false] [0, 1] [2] (s' := (mpadded_j1_E l1 (digest consts begin8 l0))) (by kernel_rfl) (allP_cons.2 ⟨g10, allP_nil⟩) ?_
        exact mpadded_j1_M h
      · replace h := bif_f h g11
        refine W_co [] [0, 1] [0] (s' := (mpadded_j1_E l1 l0)) (by kernel_rfl) (W_skip ?_)
        exact mpadded_j1_M h
  · rintro e s' ⟨he, rfl⟩
    refine ⟨he, fun a' w' hr => ?_⟩
    exact retS_ok tabO_ma hr (rs := [.tmp 4]) rfl (objs := [0]) (by kernel_rfl)
def mMark_R (r : List UInt8) : S := ⟨[(4, .c (.wh 0))], [], [⟨.row, 5, 1, r.length, .b r⟩]⟩
def mMark_ct (n : Nat) (r : List UInt8) : Ct := fun args H => match args with
  | [x0, x1] => (match aB H x0 with | some l0 => (match aB H x1 with | some l1 => some ([mMark n l0 l1 = some r], shA H.length (.c (.wh 0)), shH H.length [⟨.row, 5, 1, r.length, .b r⟩]) | none => none) | none => none)
  | _ => none
theorem mMark_ok (n : Nat) (r : List UInt8) : FnOk Tryd.prog GK 11 (mMark_ct n r) := by
  refine ⟨fun args H g av objs hF hg ρ w vals hG hp ha => ?_, _, Tryd.func11, by kernel_rfl, by kernel_rfl⟩
  obtain ⟨x0, x1, rfl⟩ : ∃ x0 x1, args = [x0, x1] := by
    unfold mMark_ct at hF; split at hF
    · exact ⟨_, _, rfl⟩
    · cases hF
  cases e0 : aB H x0 with
  | none => simp only [mMark_ct, e0, reduceCtorEq] at hF
  | some l0 =>
  cases e1 : aB H x1 with
  | none => simp only [mMark_ct, e0, e1, reduceCtorEq] at hF
  | some l1 =>
  simp only [mMark_ct, e0, e1, Option.some.injEq, Prod.mk.injEq] at hF
  obtain ⟨rfl, rfl, rfl⟩ := hF
  obtain ⟨v0, vals, rfl, k0, ha⟩ := F2.inv ha
  obtain ⟨v1, vals, rfl, k1, ha⟩ := F2.inv ha
  obtain rfl := F2.inv0 ha
  have hI : ∀ w', Kp (noB (fun _ => undef)) w w' → GK w' := fun _ hk => GK.keep hk.below hG
  have h : mMark n l0 l1 = some r := hg
  obtain ⟨p0, s0, o0⟩ := aB_ok hp e0 (k0) 5
  obtain ⟨p1, s1, o1⟩ := aB_ok hp e1 (k1) 5
  have hR0 := rel0 (gv := (fun _ => undef)) (n := 18) (w := w) (args := [.c (.wh 0), .c (.wh 1)]) (H := [⟨.ro false, 5, 1, l0.length, .b l0⟩, ⟨.ro false, 5, 1, l1.length, .b l1⟩]) (gl := []) (hpL (ps := [p0, p1]) (F2.cons o0 (F2.cons o1 F2.nil))) (allRo_ok rfl) (F2.cons s0 (F2.cons s1 F2.nil)) GlR.nil (by simp)
  clear ha hp hg k0 k1 e0 e1
  refine calls_W Tryd.func11 rfl rfl hR0 (Q := fun e s => (e = .ret ∨ e = .normal) ∧ s = mMark_R r) ?_ ?_
  · clear hR0
    unfold mMark at h
    have hT := tabO_ma
    refine W_seq ?_
    refine W_reg hT ftL_nil [] [] [0, 1] [0, 1] (s' := ⟨[(0, .c (.wh 0)), (1, .c (.wh 1))], [], [⟨(.ro false), 5, 1, l0.length, .b l0⟩, ⟨(.ro false), 5, 1, l1.length, .b l1⟩]⟩) (by kernel_rfl) allP_nil ?_
    refine W_seq ?_
    obtain ⟨r7, g1, h⟩ := bind_some' h
    obtain ⟨g2, h⟩ := gd_some h
    obtain ⟨g3, h⟩ := gd_some h
    obtain ⟨g4, h⟩ := gd_some h
    refine W_reg hT (ftL_cons (k := 1) (f := 21) (F := (mpadded_ct n r7)) (mpadded_ok n r7) hI (ftL_cons (k := 4) (f := 20) (F := cat_ct) cat_h (fun _ _ => True.intro) (ftL_cons (k := 5) (f := 19) (F := sum_ct) sum_h hI ftL_nil))) [] [] [0, 5] [0, 5] (s' := ⟨[(0, .c (.wh 0)), (5, .c (.wh 1))], [], [⟨(.ro false), 5, 1, l0.length, .b l0⟩, ⟨.row, 5, 1, (digest consts begin8 ((([r7, l1] : List (List UInt8))).flatten)).length, .b (digest consts begin8 ((([r7, l1] : List (List UInt8))).flatten))⟩]⟩) (by kernel_rfl) (allP_cons.2 ⟨g1, (allP_cons.2 ⟨g2, (allP_cons.2 ⟨g3, (allP_cons.2 ⟨g4, allP_nil⟩)⟩)⟩)⟩) ?_
    refine W_seq ?_
    obtain ⟨r13, g5, h⟩ := bind_some' h
    obtain ⟨g6, h⟩ := gd_some h
    obtain ⟨g7, h⟩ := gd_some h
    obtain ⟨g8, h⟩ := gd_some h
    refine W_reg hT (ftL_cons (k := 1) (f := 21) (F := (mpadded_ct n r13)) (mpadded_ok n r13) hI (ftL_cons (k := 4) (f := 20) (F := cat_ct) cat_h (fun _ _ => True.intro) (ftL_cons (k := 5) (f := 19) (F := sum_ct) sum_h hI ftL_nil))) [] [] [4] [5] (s' := ⟨[(4, .c (.wh 0))], [], [⟨.row, 5, 1, (digest consts begin8 ((([r13, (digest consts begin8 ((([r7, l1] : List (List UInt8))).flatten))] : List (List UInt8))).flatten)).length, .b (digest consts begin8 ((([r13, (digest consts begin8 ((([r7, l1] : List (List UInt8))).flatten))] : List (List UInt8))).flatten))⟩]⟩) (by kernel_rfl) (allP_cons.2 ⟨g5, (allP_cons.2 ⟨g6, (allP_cons.2 ⟨g7, (allP_cons.2 ⟨g8, allP_nil⟩)⟩)⟩)⟩) ?_
    refine W_co [] [4] [0] (s' := (mMark_R (digest consts begin8 ((([r13, (digest consts begin8 ((([r7, l1] : List (List UInt8))).flatten))] : List (List UInt8))).flatten)))) (by kernel_rfl) (W_ret ?_)
    exact ⟨.inl rfl, by cases h; rfl⟩
  · rintro e s' ⟨he, rfl⟩
    refine ⟨he, fun a' w' hr => ?_⟩
    exact retS_ok tabO_ma hr (rs := [.tmp 4]) rfl (objs := [0]) (by kernel_rfl)
def mmay_R (r : Option Int) : S := ⟨[(2, .c (.s (.er 38 .i64 r)))], [], []⟩
def mmay_ct (n : Nat) (r : Option Int) : Ct := fun args H => match args with
  | [x0] => (match aI x0 with | some l0 => some ([mmay n l0 = some r], shA H.length (.c (.s (.er 38 .i64 r))), shH H.length []) | none => none)
  | _ => none
theorem mmay_ok (n : Nat) (r : Option Int) : FnOk Tryd.prog Tr 25 (mmay_ct n r) := by
  refine ⟨fun args H g av objs hF hg ρ w vals hG hp ha => ?_, _, Tryd.func25, by kernel_rfl, by kernel_rfl⟩
  obtain ⟨x0, rfl⟩ : ∃ x0, args = [x0] := by
    unfold mmay_ct at hF; split at hF
    · exact ⟨_, rfl⟩
    · cases hF
  cases e0 : aI x0 with
  | none => simp only [mmay_ct, e0, reduceCtorEq] at hF
  | some l0 =>
  simp only [mmay_ct, e0, Option.some.injEq, Prod.mk.injEq] at hF
  obtain ⟨rfl, rfl, rfl⟩ := hF
  obtain ⟨v0, vals, rfl, k0, ha⟩ := F2.inv ha
  obtain rfl := F2.inv0 ha
  have hI : ∀ w', Kp (noB (fun _ => undef)) w w' → Tr w' := fun _ hk => Tr.keep hk.below hG
  have h : mmay n l0 = some r := hg
  have s0 := aI_ok e0 (k0)
  have hR0 := rel0 (gv := (fun _ => undef)) (n := 11) (w := w) (args := [.c (.s (.k .i64 l0))]) (H := []) (gl := []) (hpL (ps := []) F2.nil) (allRo_ok rfl) (F2.cons s0 F2.nil) GlR.nil (by simp)
  clear ha hp hg k0 e0
  refine calls_W Tryd.func25 rfl rfl hR0 (Q := fun e s => (e = .ret ∨ e = .normal) ∧ s = mmay_R r) ?_ ?_
  · clear hR0
    unfold mmay at h
    have hT := tabO_ma
    refine W_seq ?_
    refine W_reg hT ftL_nil [] [] [0] [] (s' := ⟨[(0, .c (.s (.k .i64 l0)))], [], []⟩) (by kernel_rfl) allP_nil ?_
    refine W_seq ?_
    refine W_block ?_
    refine W_seq ?_
    refine W_reg hT ftL_nil [] [] [0, 3] [] (s' := ⟨[(0, .c (.s (.k .i64 l0))), (3, .c (.s (.b (decide (l0 < (1 : Int))))))], [], []⟩) (by kernel_rfl) allP_nil ?_
    refine W_cond (b := (decide (l0 < (1 : Int)))) (by kernel_rfl) (fun g2 => ?_) (fun g2 => ?_)
    · replace h := bif_t h g2
      refine W_seq ?_
      refine W_reg hT ftL_nil [] [] [2] [] (s' := ⟨[(2, .c (.s (.er 38 .i64 (some 1))))], [], []⟩) (by kernel_rfl) allP_nil ?_
      refine W_co [] [2] [] (s' := (mmay_R (some 1))) (by kernel_rfl) (W_ret ?_)
      exact ⟨.inl rfl, by cases h; rfl⟩
    · replace h := bif_f h g2
      refine W_seq ?_
      refine W_reg hT ftL_nil [] [] [7] [] (s' := ⟨[(7, .c (.s (.b (decide ((10000 : Int) < l0)))))], [], []⟩) (by kernel_rfl) allP_nil ?_
      refine W_cond (b := (decide ((10000 : Int) < l0))) (by kernel_rfl) (fun g1 => ?_) (fun g1 => ?_)
      · replace h := bif_t h g1
        refine W_seq ?_
        refine W_reg hT ftL_nil [] [] [2] [] (s' := ⟨[(2, .c (.s (.er 38 .i64 (some 4))))], [], []⟩) (by kernel_rfl) allP_nil ?_
        refine W_co [] [2] [] (s' := (mmay_R (some 4))) (by kernel_rfl) (W_ret ?_)
        exact ⟨.inl rfl, by cases h; rfl⟩
      · replace h := bif_f h g1
        refine W_co [] [] [] (s' := ⟨[], [], []⟩) (by kernel_rfl) (W_skip ?_)
        refine W_seq ?_
        refine W_reg hT ftL_nil [] [] [2] [] (s' := ⟨[(2, .c (.s (.v .nilIface)))], [], []⟩) (by kernel_rfl) allP_nil ?_
        refine W_co [.er 2 38 .i64] [2] [] (s' := (mmay_R none)) (by kernel_rfl) (W_ret ?_)
        exact ⟨.inl rfl, by cases h; rfl⟩
  · rintro e s' ⟨he, rfl⟩
    refine ⟨he, fun a' w' hr => ?_⟩
    exact retS_ok tabO_ma hr (rs := [.tmp 2]) rfl (objs := []) (by kernel_rfl)
def mDerive_l3_E (a0 : List UInt8) (a1 : List UInt8) (a2 : Int) (a3 : Int) (l11_1 : List UInt8) (i12_1 : Int) (r48_2 : List UInt8) (i53_5 : Int) (r57_8 : List UInt8) (l14_23 : List UInt8) (i60_17 : Int) : S := ⟨[(0, .c (.wh 0)), (1, .c (.wh 1)), (2, .c (.s (.k .i64 a2))), (3, .c (.s (.k .i64 a3))), (11, .c (.wh 2)), (12, .c (.s (.k .i64 i12_1))), (13, .c (.wh 3)), (14, .c (.wh 4)), (52, .c (.s (.k .i64 (a2 - 1)))), (53, .c (.s (.k .i64 i53_5))), (59, .c (.s (.k .i64 (((r48_2).length : Nat) : Int)))), (60, .c (.s (.k .i64 i60_17)))], [], [⟨(.ro false), 5, 1, a0.length, .b a0⟩, ⟨(.ro false), 5, 1, a1.length, .b a1⟩, ⟨.row, 5, 1, l11_1.length, .b l11_1⟩, ⟨.row, 5, 1, r57_8.length, .b r57_8⟩, ⟨.row, 5, 1, (r48_2).length, .b l14_23⟩]⟩
def mDerive_l3_P (n : Nat) (a0 : List UInt8) (a1 : List UInt8) (a2 : Int) (a3 : Int) (l11_1 : List UInt8) (i12_1 : Int) (r48_2 : List UInt8) (i53_5 : Int) (r57_8 : List UInt8) (k_l2 : (List UInt8) → (List UInt8) → Int → Option (List UInt8 × Nat × Option Int)) (r : List UInt8 × Nat × Option Int) (fu : Nat) : S → Prop := fun s => ∃ (l14_23 : List UInt8), ∃ (i60_17 : Int), s = mDerive_l3_E a0 a1 a2 a3 l11_1 i12_1 r48_2 i53_5 r57_8 l14_23 i60_17 ∧ mDerive_l3 n a0 a1 a2 a3 l11_1 i12_1 r48_2 i53_5 r57_8 k_l2 fu l14_23 i60_17 = some r
theorem mDerive_l3_M {n : Nat} {a0 : List UInt8} {a1 : List UInt8} {a2 : Int} {a3 : Int} {l11_1 : List UInt8} {i12_1 : Int} {r48_2 : List UInt8} {i53_5 : Int} {r57_8 : List UInt8} {k_l2 : (List UInt8) → (List UInt8) → Int → Option (List UInt8 × Nat × Option Int)} {l14_23 : List UInt8} {i60_17 : Int} {r : List UInt8 × Nat × Option Int} {fu : Nat} (h : mDerive_l3 n a0 a1 a2 a3 l11_1 i12_1 r48_2 i53_5 r57_8 k_l2 fu l14_23 i60_17 = some r) : mDerive_l3_P n a0 a1 a2 a3 l11_1 i12_1 r48_2 i53_5 r57_8 k_l2 r fu (mDerive_l3_E a0 a1 a2 a3 l11_1 i12_1 r48_2 i53_5 r57_8 l14_23 i60_17) := ⟨l14_23, i60_17, rfl, h⟩
def mDerive_l2_E (a0 : List UInt8) (a1 : List UInt8) (a2 : Int) (a3 : Int) (l11_1 : List UInt8) (i12_1 : Int) (r48_2 : List UInt8) (l13_5 : List UInt8) (l14_21 : List UInt8) (i53_5 : Int) : S := ⟨[(0, .c (.wh 0)), (1, .c (.wh 1)), (2, .c (.s (.k .i64 a2))), (3, .c (.s (.k .i64 a3))), (11, .c (.wh 2)), (12, .c (.s (.k .i64 i12_1))), (13, .c (.wh 3)), (14, .c (.wh 4)), (52, .c (.s (.k .i64 (a2 - 1)))), (53, .c (.s (.k .i64 i53_5)))], [], [⟨(.ro false), 5, 1, a0.length, .b a0⟩, ⟨(.ro false), 5, 1, a1.length, .b a1⟩, ⟨.row, 5, 1, l11_1.length, .b l11_1⟩, ⟨.row, 5, 1, l13_5.length, .b l13_5⟩, ⟨.row, 5, 1, (r48_2).length, .b l14_21⟩]⟩
def mDerive_l2_P (n : Nat) (a0 : List UInt8) (a1 : List UInt8) (a2 : Int) (a3 : Int) (l11_1 : List UInt8) (i12_1 : Int) (r48_2 : List UInt8) (k_l1 : (List UInt8) → Int → Option (List UInt8 × Nat × Option Int)) (r : List UInt8 × Nat × Option Int) (fu : Nat) : S → Prop := fun s => ∃ (l13_5 : List UInt8), ∃ (l14_21 : List UInt8), ∃ (i53_5 : Int), s = mDerive_l2_E a0 a1 a2 a3 l11_1 i12_1 r48_2 l13_5 l14_21 i53_5 ∧ mDerive_l2 n a0 a1 a2 a3 l11_1 i12_1 r48_2 k_l1 fu l13_5 l14_21 i53_5 = some r
theorem mDerive_l2_M {n : Nat} {a0 : List UInt8} {a1 : List UInt8} {a2 : Int} {a3 : Int} {l11_1 : List UInt8} {i12_1 : Int} {r48_2 : List UInt8} {k_l1 : (List UInt8) → Int → Option (List UInt8 × Nat × Option Int)} {l13_5 : List UInt8} {l14_21 : List UInt8} {i53_5 : Int} {r : List UInt8 × Nat × Option Int} {fu : Nat} (h : mDerive_l2 n a0 a1 a2 a3 l11_1 i12_1 r48_2 k_l1 fu l13_5 l14_21 i53_5 = some r) : mDerive_l2_P n a0 a1 a2 a3 l11_1 i12_1 r48_2 k_l1 r fu (mDerive_l2_E a0 a1 a2 a3 l11_1 i12_1 r48_2 l13_5 l14_21 i53_5) := ⟨l13_5, l14_21, i53_5, rfl, h⟩
def mDerive_l1_E (a0 : List UInt8) (a1 : List UInt8) (a2 : Int) (a3 : Int) (l11_1 : List UInt8) (i12_1 : Int) : S := ⟨[(0, .c (.wh 0)), (1, .c (.wh 1)), (2, .c (.s (.k .i64 a2))), (3, .c (.s (.k .i64 a3))), (11, .c (.wh 2)), (12, .c (.s (.k .i64 i12_1)))], [], [⟨(.ro false), 5, 1, a0.length, .b a0⟩, ⟨(.ro false), 5, 1, a1.length, .b a1⟩, ⟨.row, 5, 1, l11_1.length, .b l11_1⟩]⟩
def mDerive_l1_P (n : Nat) (a0 : List UInt8) (a1 : List UInt8) (a2 : Int) (a3 : Int) (r : List UInt8 × Nat × Option Int) (fu : Nat) : S → Prop := fun s => ∃ (l11_1 : List UInt8), ∃ (i12_1 : Int), s = mDerive_l1_E a0 a1 a2 a3 l11_1 i12_1 ∧ mDerive_l1 n a0 a1 a2 a3 fu l11_1 i12_1 = some r
theorem mDerive_l1_M {n : Nat} {a0 : List UInt8} {a1 : List UInt8} {a2 : Int} {a3 : Int} {l11_1 : List UInt8} {i12_1 : Int} {r : List UInt8 × Nat × Option Int} {fu : Nat} (h : mDerive_l1 n a0 a1 a2 a3 fu l11_1 i12_1 = some r) : mDerive_l1_P n a0 a1 a2 a3 r fu (mDerive_l1_E a0 a1 a2 a3 l11_1 i12_1) := ⟨l11_1, i12_1, rfl, h⟩
def mDerive_R (r : List UInt8 × Nat × Option Int) : S := ⟨[(8, .c (.sl 0 0 r.2.1)), (9, .c (.s (.er 38 .i64 r.2.2)))], [], [⟨.row, 5, 1, r.1.length, .b r.1⟩]⟩
def mDerive_ct (n : Nat) (r : List UInt8 × Nat × Option Int) : Ct := fun args H => match args with
  | [x0, x1, x2, x3] => (match aB H x0 with | some l0 => (match aB H x1 with | some l1 => (match aI x2 with | some l2 => (match aI x3 with | some l3 => some ([mDerive n l0 l1 l2 l3 = some r], shA H.length (.t [.c (.sl 0 0 r.2.1), .c (.s (.er 38 .i64 r.2.2))]), shH H.length [⟨.row, 5, 1, r.1.length, .b r.1⟩]) | none => none) | none => none) | none => none) | none => none)
  | _ => none
theorem mDerive_ok (n : Nat) (r : List UInt8 × Nat × Option Int) : FnOk Tryd.prog GK 14 (mDerive_ct n r) := by
  refine ⟨fun args H g av objs hF hg ρ w vals hG hp ha => ?_, _, Tryd.func14, by kernel_rfl, by kernel_rfl⟩
  obtain ⟨x0, x1, x2, x3, rfl⟩ : ∃ x0 x1 x2 x3, args = [x0, x1, x2, x3] := by
    unfold mDerive_ct at hF; split at hF
    · exact ⟨_, _, _, _, rfl⟩
    · cases hF
  cases e0 : aB H x0 with
  | none => simp only [mDerive_ct, e0, reduceCtorEq] at hF
  | some l0 =>
  cases e1 : aB H x1 with
  | none => simp only [mDerive_ct, e0, e1, reduceCtorEq] at hF
  | some l1 =>
  cases e2 : aI x2 with
  | none => simp only [mDerive_ct, e0, e1, e2, reduceCtorEq] at hF
  | some l2 =>
  cases e3 : aI x3 with
  | none => simp only [mDerive_ct, e0, e1, e2, e3, reduceCtorEq] at hF
  | some l3 =>
  simp only [mDerive_ct, e0, e1, e2, e3, Option.some.injEq, Prod.mk.injEq] at hF
  obtain ⟨rfl, rfl, rfl⟩ := hF
  obtain ⟨v0, vals, rfl, k0, ha⟩ := F2.inv ha
  obtain ⟨v1, vals, rfl, k1, ha⟩ := F2.inv ha
  obtain ⟨v2, vals, rfl, k2, ha⟩ := F2.inv ha
  obtain ⟨v3, vals, rfl, k3, ha⟩ := F2.inv ha
  obtain rfl := F2.inv0 ha
  have hI : ∀ w', Kp (noB (fun _ => undef)) w w' → GK w' := fun _ hk => GK.keep hk.below hG
  have h : mDerive n l0 l1 l2 l3 = some r := hg
  obtain ⟨p0, s0, o0⟩ := aB_ok hp e0 (k0) 5
  obtain ⟨p1, s1, o1⟩ := aB_ok hp e1 (k1) 5
  have s2 := aI_ok e2 (k2)
  have s3 := aI_ok e3 (k3)
  have hR0 := rel0 (gv := (fun _ => undef)) (n := 82) (w := w) (args := [.c (.wh 0), .c (.wh 1), .c (.s (.k .i64 l2)), .c (.s (.k .i64 l3))]) (H := [⟨.ro false, 5, 1, l0.length, .b l0⟩, ⟨.ro false, 5, 1, l1.length, .b l1⟩]) (gl := []) (hpL (ps := [p0, p1]) (F2.cons o0 (F2.cons o1 F2.nil))) (allRo_ok rfl) (F2.cons s0 (F2.cons s1 (F2.cons s2 (F2.cons s3 F2.nil)))) GlR.nil (by simp)
  clear ha hp hg k0 k1 k2 k3 e0 e1 e2 e3
  refine calls_W Tryd.func14 rfl rfl hR0 (Q := fun e s => (e = .ret ∨ e = .normal) ∧ s = mDerive_R r) ?_ ?_
  · clear hR0
    unfold mDerive at h
    have hT := tabO_ma
    refine W_seq ?_
    refine W_reg hT ftL_nil [] [] [0, 1, 2, 3] [0, 1] (s' := ⟨[(0, .c (.wh 0)), (1, .c (.wh 1)), (2, .c (.s (.k .i64 l2))), (3, .c (.s (.k .i64 l3)))], [], [⟨(.ro false), 5, 1, l0.length, .b l0⟩, ⟨(.ro false), 5, 1, l1.length, .b l1⟩]⟩) (by kernel_rfl) allP_nil ?_
    refine W_seq ?_
    refine W_seq ?_
    rcases Bool.eq_false_or_eq_true (decide (l3 < (0 : Int))) with g1 | g1
    · replace h := bif_t h g1
      refine W_reg hT ftL_nil [(2, true)] [] [0, 1, 2, 3, 21] [0, 1] (s' := ⟨[(0, .c (.wh 0)), (1, .c (.wh 1)), (2, .c (.s (.k .i64 l2))), (3, .c (.s (.k .i64 l3))), (21, .c (.s (.b true)))], [], [⟨(.ro false), 5, 1, l0.length, .b l0⟩, ⟨(.ro false), 5, 1, l1.length, .b l1⟩]⟩) (by kernel_rfl) (allP_cons.2 ⟨g1, allP_nil⟩) ?_
      refine W_cond (b := true) (by kernel_rfl) (fun _ => ?_) (fun hb => by cases hb)
      refine W_seq ?_
      refine W_reg hT ftL_nil [] [] [8, 9] [] (s' := ⟨[(8, .c (.nils)), (9, .c (.s (.er 38 .i64 (some 1))))], [], []⟩) (by kernel_rfl) allP_nil ?_
      refine W_co [.nil 8 5 1 (.b []), .sb 8] [8, 9] [0] (s' := (mDerive_R ([], 0, (some 1)))) (by kernel_rfl) (W_ret ?_)
      exact ⟨.inl rfl, by cases h; rfl⟩
    · replace h := bif_f h g1
      refine W_reg hT ftL_nil [(2, false)] [] [0, 1, 2, 3, 21] [0, 1] (s' := ⟨[(0, .c (.wh 0)), (1, .c (.wh 1)), (2, .c (.s (.k .i64 l2))), (3, .c (.s (.k .i64 l3))), (21, .c (.s (.b (decide (l2 < (1 : Int))))))], [], [⟨(.ro false), 5, 1, l0.length, .b l0⟩, ⟨(.ro false), 5, 1, l1.length, .b l1⟩]⟩) (by kernel_rfl) (allP_cons.2 ⟨g1, allP_nil⟩) ?_
      refine W_cond (b := (decide (l2 < (1 : Int)))) (by kernel_rfl) (fun g29 => ?_) (fun g29 => ?_)
      · replace h := bif_t h g29
        refine W_seq ?_
        refine W_reg hT ftL_nil [] [] [8, 9] [] (s' := ⟨[(8, .c (.nils)), (9, .c (.s (.er 38 .i64 (some 1))))], [], []⟩) (by kernel_rfl) allP_nil ?_
        refine W_co [.nil 8 5 1 (.b []), .sb 8] [8, 9] [0] (s' := (mDerive_R ([], 0, (some 1)))) (by kernel_rfl) (W_ret ?_)
        exact ⟨.inl rfl, by cases h; rfl⟩
      · replace h := bif_f h g29
        refine W_co [] [0, 1, 2, 3] [0, 1] (s' := ⟨[(0, .c (.wh 0)), (1, .c (.wh 1)), (2, .c (.s (.k .i64 l2))), (3, .c (.s (.k .i64 l3)))], [], [⟨(.ro false), 5, 1, l0.length, .b l0⟩, ⟨(.ro false), 5, 1, l1.length, .b l1⟩]⟩) (by kernel_rfl) (W_skip ?_)
        refine W_seq ?_
        refine W_seq ?_
        obtain ⟨r24, g2, h⟩ := bind_some' h
        refine W_reg hT (ftL_cons (k := 1) (f := 25) (F := (mmay_ct n r24)) (mmay_ok n r24) (fun _ _ => True.intro) ftL_nil) [] [] [0, 1, 2, 3, 10] [0, 1] (s' := ⟨[(0, .c (.wh 0)), (1, .c (.wh 1)), (2, .c (.s (.k .i64 l2))), (3, .c (.s (.k .i64 l3))), (10, .c (.s (.er 38 .i64 r24)))], [], [⟨(.ro false), 5, 1, l0.length, .b l0⟩, ⟨(.ro false), 5, 1, l1.length, .b l1⟩]⟩) (by kernel_rfl) (allP_cons.2 ⟨g2, allP_nil⟩) ?_
        refine W_seq ?_
        rcases Bool.eq_false_or_eq_true (!((r24).isNone)) with g3 | g3
        · replace h := bif_t h g3
          refine W_reg hT ftL_nil [(2, true)] [] [0, 1, 2, 3, 30] [0, 1] (s' := ⟨[(0, .c (.wh 0)), (1, .c (.wh 1)), (2, .c (.s (.k .i64 l2))), (3, .c (.s (.k .i64 l3))), (30, .c (.s (.b true)))], [], [⟨(.ro false), 5, 1, l0.length, .b l0⟩, ⟨(.ro false), 5, 1, l1.length, .b l1⟩]⟩) (by kernel_rfl) (allP_cons.2 ⟨g3, allP_nil⟩) ?_
          refine W_cond (b := true) (by kernel_rfl) (fun _ => ?_) (fun hb => by cases hb)
          refine W_seq ?_
          refine W_reg hT ftL_nil [] [] [8, 9] [] (s' := ⟨[(8, .c (.nils)), (9, .c (.s (.er 38 .i64 (some 4))))], [], []⟩) (by kernel_rfl) allP_nil ?_
          refine W_co [.nil 8 5 1 (.b []), .sb 8] [8, 9] [0] (s' := (mDerive_R ([], 0, (some 4)))) (by kernel_rfl) (W_ret ?_)
          exact ⟨.inl rfl, by cases h; rfl⟩
        · replace h := bif_f h g3
          refine W_reg hT ftL_nil [(2, false)] [] [0, 1, 2, 3, 30] [0, 1] (s' := ⟨[(0, .c (.wh 0)), (1, .c (.wh 1)), (2, .c (.s (.k .i64 l2))), (3, .c (.s (.k .i64 l3))), (30, .c (.s (.b (decide ((256 : Int) < l3)))))], [], [⟨(.ro false), 5, 1, l0.length, .b l0⟩, ⟨(.ro false), 5, 1, l1.length, .b l1⟩]⟩) (by kernel_rfl) (allP_cons.2 ⟨g3, allP_nil⟩) ?_
          refine W_cond (b := (decide ((256 : Int) < l3))) (by kernel_rfl) (fun g28 => ?_) (fun g28 => ?_)
          · replace h := bif_t h g28
            refine W_seq ?_
            refine W_reg hT ftL_nil [] [] [8, 9] [] (s' := ⟨[(8, .c (.nils)), (9, .c (.s (.er 38 .i64 (some 4))))], [], []⟩) (by kernel_rfl) allP_nil ?_
            refine W_co [.nil 8 5 1 (.b []), .sb 8] [8, 9] [0] (s' := (mDerive_R ([], 0, (some 4)))) (by kernel_rfl) (W_ret ?_)
            exact ⟨.inl rfl, by cases h; rfl⟩
          · replace h := bif_f h g28
            refine W_co [] [0, 1, 2, 3] [0, 1] (s' := ⟨[(0, .c (.wh 0)), (1, .c (.wh 1)), (2, .c (.s (.k .i64 l2))), (3, .c (.s (.k .i64 l3)))], [], [⟨(.ro false), 5, 1, l0.length, .b l0⟩, ⟨(.ro false), 5, 1, l1.length, .b l1⟩]⟩) (by kernel_rfl) (W_skip ?_)
            refine W_seq ?_
            refine W_reg hT ftL_nil [] [] [0, 1, 2, 3, 11] [0, 1] (s' := ⟨[(0, .c (.wh 0)), (1, .c (.wh 1)), (2, .c (.s (.k .i64 l2))), (3, .c (.s (.k .i64 l3))), (11, .c (.nils))], [], [⟨(.ro false), 5, 1, l0.length, .b l0⟩, ⟨(.ro false), 5, 1, l1.length, .b l1⟩]⟩) (by kernel_rfl) allP_nil ?_
            refine W_seq ?_
            refine W_seq ?_
            refine W_reg hT ftL_nil [] [] [0, 1, 2, 3, 11, 12] [0, 1] (s' := ⟨[(0, .c (.wh 0)), (1, .c (.wh 1)), (2, .c (.s (.k .i64 l2))), (3, .c (.s (.k .i64 l3))), (11, .c (.nils)), (12, .c (.s (.k .i64 1)))], [], [⟨(.ro false), 5, 1, l0.length, .b l0⟩, ⟨(.ro false), 5, 1, l1.length, .b l1⟩]⟩) (by kernel_rfl) allP_nil ?_
            refine W_block ?_
            refine W_co [.nil 11 5 1 (.b [])] [0, 1, 2, 3, 11, 12] [0, 1, 2] (s' := (mDerive_l1_E l0 l1 l2 l3 [] 1)) (by kernel_rfl) (W_lp ((mDerive_l1_P n l0 l1 l2 l3 r)) n (mDerive_l1_M h) ?_)
            rintro fu_l1 _ ⟨l11_1, i12_1, rfl, h⟩
            cases fu_l1 with
            | zero => cases h
            | succ fu_l1 =>
              refine ⟨fu_l1, rfl, ?_⟩
              rw [mDerive_l1] at h
              refine W_seq ?_
              refine W_seq ?_
              refine W_reg hT ftL_nil [] [] [0, 1, 2, 3, 11, 12, 35] [0, 1, 2] (s' := ⟨[(0, .c (.wh 0)), (1, .c (.wh 1)), (2, .c (.s (.k .i64 l2))), (3, .c (.s (.k .i64 l3))), (11, .c (.wh 2)), (12, .c (.s (.k .i64 i12_1))), (35, .c (.s (.b (decide (((l11_1.length : Nat) : Int) < l3)))))], [], [⟨(.ro false), 5, 1, l0.length, .b l0⟩, ⟨(.ro false), 5, 1, l1.length, .b l1⟩, ⟨.row, 5, 1, l11_1.length, .b l11_1⟩]⟩) (by kernel_rfl) allP_nil ?_
              refine W_cond (b := (decide (((l11_1.length : Nat) : Int) < l3))) (by kernel_rfl) (fun g27 => ?_) (fun g27 => ?_)
              · replace h := bif_t h g27
                refine W_co [] [0, 1, 2, 3, 11, 12] [0, 1, 2] (s' := ⟨[(0, .c (.wh 0)), (1, .c (.wh 1)), (2, .c (.s (.k .i64 l2))), (3, .c (.s (.k .i64 l3))), (11, .c (.wh 2)), (12, .c (.s (.k .i64 i12_1)))], [], [⟨(.ro false), 5, 1, l0.length, .b l0⟩, ⟨(.ro false), 5, 1, l1.length, .b l1⟩, ⟨.row, 5, 1, l11_1.length, .b l11_1⟩]⟩) (by kernel_rfl) (W_skip ?_)
                refine W_seq ?_
                refine W_block ?_
                refine W_seq ?_
                obtain ⟨g4, h⟩ := gd_some h
                obtain ⟨g5, h⟩ := gd_some h
                obtain ⟨g6, h⟩ := gd_some h
                obtain ⟨g7, h⟩ := gd_some h
                obtain ⟨r48_2, g8, h⟩ := bind_some' h
                refine W_reg hT (ftL_cons (k := 9) (f := 20) (F := cat_ct) cat_h (fun _ _ => True.intro) (ftL_cons (k := 10) (f := 11) (F := (mMark_ct n r48_2)) (mMark_ok n r48_2) hI ftL_nil)) [] [] [0, 1, 2, 3, 11, 12, 13] [0, 1, 2, 6] (s' := ⟨[(0, .c (.wh 0)), (1, .c (.wh 1)), (2, .c (.s (.k .i64 l2))), (3, .c (.s (.k .i64 l3))), (11, .c (.wh 2)), (12, .c (.s (.k .i64 i12_1))), (13, .c (.wh 3))], [], [⟨(.ro false), 5, 1, l0.length, .b l0⟩, ⟨(.ro false), 5, 1, l1.length, .b l1⟩, ⟨.row, 5, 1, l11_1.length, .b l11_1⟩, ⟨.row, 5, 1, r48_2.length, .b r48_2⟩]⟩) (by kernel_rfl) (allP_cons.2 ⟨g4, (allP_cons.2 ⟨g5, (allP_cons.2 ⟨g6, (allP_cons.2 ⟨g7, (allP_cons.2 ⟨g8, allP_nil⟩)⟩)⟩)⟩)⟩) ?_
                refine W_seq ?_
                obtain ⟨g9, h⟩ := gd_some h
                refine W_reg hT (ftL_cons (k := 1) (f := 26) (F := cloneb_ct) cloneb_h (fun _ _ => True.intro) ftL_nil) [] [] [0, 1, 2, 3, 11, 12, 13, 14] [0, 1, 2, 3, 4] (s' := ⟨[(0, .c (.wh 0)), (1, .c (.wh 1)), (2, .c (.s (.k .i64 l2))), (3, .c (.s (.k .i64 l3))), (11, .c (.wh 2)), (12, .c (.s (.k .i64 i12_1))), (13, .c (.wh 3)), (14, .c (.wh 4))], [], [⟨(.ro false), 5, 1, l0.length, .b l0⟩, ⟨(.ro false), 5, 1, l1.length, .b l1⟩, ⟨.row, 5, 1, l11_1.length, .b l11_1⟩, ⟨.row, 5, 1, r48_2.length, .b r48_2⟩, ⟨.row, 5, 1, (r48_2).length, .b (r48_2)⟩]⟩) (by kernel_rfl) (allP_cons.2 ⟨g9, allP_nil⟩) ?_
                refine W_seq ?_
                refine W_seq ?_
                obtain ⟨g10, h⟩ := gd_some h
                refine W_reg hT ftL_nil [] [] [0, 1, 2, 3, 11, 12, 13, 14, 52, 53] [0, 1, 2, 3, 4] (s' := ⟨[(0, .c (.wh 0)), (1, .c (.wh 1)), (2, .c (.s (.k .i64 l2))), (3, .c (.s (.k .i64 l3))), (11, .c (.wh 2)), (12, .c (.s (.k .i64 i12_1))), (13, .c (.wh 3)), (14, .c (.wh 4)), (52, .c (.s (.k .i64 (l2 - 1)))), (53, .c (.s (.k .i64 0)))], [], [⟨(.ro false), 5, 1, l0.length, .b l0⟩, ⟨(.ro false), 5, 1, l1.length, .b l1⟩, ⟨.row, 5, 1, l11_1.length, .b l11_1⟩, ⟨.row, 5, 1, r48_2.length, .b r48_2⟩, ⟨.row, 5, 1, (r48_2).length, .b (r48_2)⟩]⟩) (by kernel_rfl) (allP_cons.2 ⟨g10, allP_nil⟩) ?_
                refine W_block ?_
                refine W_co [] [0, 1, 2, 3, 11, 12, 13, 14, 52, 53] [0, 1, 2, 3, 4] (s' := (mDerive_l2_E l0 l1 l2 l3 l11_1 i12_1 r48_2 r48_2 (r48_2) 0)) (by kernel_rfl) (W_lp ((mDerive_l2_P n l0 l1 l2 l3 l11_1 i12_1 r48_2 (mDerive_l1 n l0 l1 l2 l3 fu_l1) r)) n (mDerive_l2_M h) ?_)
                rintro fu_l2 _ ⟨l13_5, l14_21, i53_5, rfl, h⟩
                cases fu_l2 with
                | zero => cases h
                | succ fu_l2 =>
                  refine ⟨fu_l2, rfl, ?_⟩
                  rw [mDerive_l2] at h
                  refine W_seq ?_
                  refine W_reg hT ftL_nil [] [] [0, 1, 2, 3, 11, 12, 13, 14, 52, 53, 54] [0, 1, 2, 3, 4] (s' := ⟨[(0, .c (.wh 0)), (1, .c (.wh 1)), (2, .c (.s (.k .i64 l2))), (3, .c (.s (.k .i64 l3))), (11, .c (.wh 2)), (12, .c (.s (.k .i64 i12_1))), (13, .c (.wh 3)), (14, .c (.wh 4)), (52, .c (.s (.k .i64 (l2 - 1)))), (53, .c (.s (.k .i64 i53_5))), (54, .c (.s (.b (decide (i53_5 < (l2 - 1))))))], [], [⟨(.ro false), 5, 1, l0.length, .b l0⟩, ⟨(.ro false), 5, 1, l1.length, .b l1⟩, ⟨.row, 5, 1, l11_1.length, .b l11_1⟩, ⟨.row, 5, 1, l13_5.length, .b l13_5⟩, ⟨.row, 5, 1, (r48_2).length, .b l14_21⟩]⟩) (by kernel_rfl) allP_nil ?_
                  refine W_seq ?_
                  refine W_cond (b := (decide (i53_5 < (l2 - 1)))) (by kernel_rfl) (fun g23 => ?_) (fun g23 => ?_)
                  · replace h := bif_t h g23
                    refine W_co [] [0, 1, 2, 3, 11, 12, 13, 14, 52, 53] [0, 1, 2, 3, 4] (s' := ⟨[(0, .c (.wh 0)), (1, .c (.wh 1)), (2, .c (.s (.k .i64 l2))), (3, .c (.s (.k .i64 l3))), (11, .c (.wh 2)), (12, .c (.s (.k .i64 i12_1))), (13, .c (.wh 3)), (14, .c (.wh 4)), (52, .c (.s (.k .i64 (l2 - 1)))), (53, .c (.s (.k .i64 i53_5)))], [], [⟨(.ro false), 5, 1, l0.length, .b l0⟩, ⟨(.ro false), 5, 1, l1.length, .b l1⟩, ⟨.row, 5, 1, l11_1.length, .b l11_1⟩, ⟨.row, 5, 1, l13_5.length, .b l13_5⟩, ⟨.row, 5, 1, (r48_2).length, .b l14_21⟩]⟩) (by kernel_rfl) (W_skip ?_)
                    refine W_seq ?_
                    refine W_block ?_
                    refine W_seq ?_
                    obtain ⟨r57_8, g11, h⟩ := bind_some' h
                    refine W_reg hT (ftL_cons (k := 2) (f := 11) (F := (mMark_ct n r57_8)) (mMark_ok n r57_8) hI ftL_nil) [] [] [0, 1, 2, 3, 11, 12, 13, 14, 52, 53] [0, 1, 2, 5, 4] (s' := ⟨[(0, .c (.wh 0)), (1, .c (.wh 1)), (2, .c (.s (.k .i64 l2))), (3, .c (.s (.k .i64 l3))), (11, .c (.wh 2)), (12, .c (.s (.k .i64 i12_1))), (13, .c (.wh 3)), (14, .c (.wh 4)), (52, .c (.s (.k .i64 (l2 - 1)))), (53, .c (.s (.k .i64 i53_5)))], [], [⟨(.ro false), 5, 1, l0.length, .b l0⟩, ⟨(.ro false), 5, 1, l1.length, .b l1⟩, ⟨.row, 5, 1, l11_1.length, .b l11_1⟩, ⟨.row, 5, 1, r57_8.length, .b r57_8⟩, ⟨.row, 5, 1, (r48_2).length, .b l14_21⟩]⟩) (by kernel_rfl) (allP_cons.2 ⟨g11, allP_nil⟩) ?_
                    refine W_seq ?_
                    refine W_reg hT ftL_nil [] [] [0, 1, 2, 3, 11, 12, 13, 14, 52, 53, 59, 60] [0, 1, 2, 3, 4] (s' := ⟨[(0, .c (.wh 0)), (1, .c (.wh 1)), (2, .c (.s (.k .i64 l2))), (3, .c (.s (.k .i64 l3))), (11, .c (.wh 2)), (12, .c (.s (.k .i64 i12_1))), (13, .c (.wh 3)), (14, .c (.wh 4)), (52, .c (.s (.k .i64 (l2 - 1)))), (53, .c (.s (.k .i64 i53_5))), (59, .c (.s (.k .i64 (((r48_2).length : Nat) : Int)))), (60, .c (.s (.k .i64 0)))], [], [⟨(.ro false), 5, 1, l0.length, .b l0⟩, ⟨(.ro false), 5, 1, l1.length, .b l1⟩, ⟨.row, 5, 1, l11_1.length, .b l11_1⟩, ⟨.row, 5, 1, r57_8.length, .b r57_8⟩, ⟨.row, 5, 1, (r48_2).length, .b l14_21⟩]⟩) (by kernel_rfl) allP_nil ?_
                    refine W_block ?_
                    refine W_co [] [0, 1, 2, 3, 11, 12, 13, 14, 52, 53, 59, 60] [0, 1, 2, 3, 4] (s' := (mDerive_l3_E l0 l1 l2 l3 l11_1 i12_1 r48_2 i53_5 r57_8 l14_21 0)) (by kernel_rfl) (W_lp ((mDerive_l3_P n l0 l1 l2 l3 l11_1 i12_1 r48_2 i53_5 r57_8 (mDerive_l2 n l0 l1 l2 l3 l11_1 i12_1 r48_2 (mDerive_l1 n l0 l1 l2 l3 fu_l1) fu_l2) r)) n (mDerive_l3_M h) ?_)
                    rintro fu_l3 _ ⟨l14_23, i60_17, rfl, h⟩
                    cases fu_l3 with
                    | zero => cases h
                    | succ fu_l3 =>
                      refine ⟨fu_l3, rfl, ?_⟩
                      rw [mDerive_l3] at h
                      refine W_seq ?_
                      refine W_reg hT ftL_nil [] [] [0, 1, 2, 3, 11, 12, 13, 14, 52, 53, 59, 60, 61] [0, 1, 2, 3, 4] (s' := ⟨[(0, .c (.wh 0)), (1, .c (.wh 1)), (2, .c (.s (.k .i64 l2))), (3, .c (.s (.k .i64 l3))), (11, .c (.wh 2)), (12, .c (.s (.k .i64 i12_1))), (13, .c (.wh 3)), (14, .c (.wh 4)), (52, .c (.s (.k .i64 (l2 - 1)))), (53, .c (.s (.k .i64 i53_5))), (59, .c (.s (.k .i64 (((r48_2).length : Nat) : Int)))), (60, .c (.s (.k .i64 i60_17))), (61, .c (.s (.b (decide (i60_17 < (((r48_2).length : Nat) : Int))))))], [], [⟨(.ro false), 5, 1, l0.length, .b l0⟩, ⟨(.ro false), 5, 1, l1.length, .b l1⟩, ⟨.row, 5, 1, l11_1.length, .b l11_1⟩, ⟨.row, 5, 1, r57_8.length, .b r57_8⟩, ⟨.row, 5, 1, (r48_2).length, .b l14_23⟩]⟩) (by kernel_rfl) allP_nil ?_
                      refine W_seq ?_
                      refine W_cond (b := (decide (i60_17 < (((r48_2).length : Nat) : Int)))) (by kernel_rfl) (fun g20 => ?_) (fun g20 => ?_)
                      · replace h := bif_t h g20
                        refine W_co [] [0, 1, 2, 3, 11, 12, 13, 14, 52, 53, 59, 60] [0, 1, 2, 3, 4] (s' := ⟨[(0, .c (.wh 0)), (1, .c (.wh 1)), (2, .c (.s (.k .i64 l2))), (3, .c (.s (.k .i64 l3))), (11, .c (.wh 2)), (12, .c (.s (.k .i64 i12_1))), (13, .c (.wh 3)), (14, .c (.wh 4)), (52, .c (.s (.k .i64 (l2 - 1)))), (53, .c (.s (.k .i64 i53_5))), (59, .c (.s (.k .i64 (((r48_2).length : Nat) : Int)))), (60, .c (.s (.k .i64 i60_17)))], [], [⟨(.ro false), 5, 1, l0.length, .b l0⟩, ⟨(.ro false), 5, 1, l1.length, .b l1⟩, ⟨.row, 5, 1, l11_1.length, .b l11_1⟩, ⟨.row, 5, 1, r57_8.length, .b r57_8⟩, ⟨.row, 5, 1, (r48_2).length, .b l14_23⟩]⟩) (by kernel_rfl) (W_skip ?_)
                        refine W_seq ?_
                        refine W_block ?_
                        refine W_seq ?_
                        refine W_reg hT ftL_nil [] [] [0, 1, 2, 3, 11, 12, 13, 14, 15, 52, 53, 59, 60] [0, 1, 2, 3, 4] (s' := ⟨[(0, .c (.wh 0)), (1, .c (.wh 1)), (2, .c (.s (.k .i64 l2))), (3, .c (.s (.k .i64 l3))), (11, .c (.wh 2)), (12, .c (.s (.k .i64 i12_1))), (13, .c (.wh 3)), (14, .c (.wh 4)), (15, .c (.s (.k .i64 i60_17))), (52, .c (.s (.k .i64 (l2 - 1)))), (53, .c (.s (.k .i64 i53_5))), (59, .c (.s (.k .i64 (((r48_2).length : Nat) : Int)))), (60, .c (.s (.k .i64 i60_17)))], [], [⟨(.ro false), 5, 1, l0.length, .b l0⟩, ⟨(.ro false), 5, 1, l1.length, .b l1⟩, ⟨.row, 5, 1, l11_1.length, .b l11_1⟩, ⟨.row, 5, 1, r57_8.length, .b r57_8⟩, ⟨.row, 5, 1, (r48_2).length, .b l14_23⟩]⟩) (by kernel_rfl) allP_nil ?_
                        obtain ⟨g12, h⟩ := gd_some h
                        obtain ⟨g13, h⟩ := gd_some h
                        obtain ⟨g14, h⟩ := gd_some h
                        obtain ⟨g15, h⟩ := gd_some h
                        obtain ⟨g16, h⟩ := gd_some h
                        obtain ⟨g17, h⟩ := gd_some h
                        refine W_regD hT ftL_nil (by kernel_rfl) 8 [] [(0, false), (1, false), (2, false), (3, false), (11, false), (12, false), (13, false), (14, false), (52, false), (53, false), (59, false), (60, false), (63, false), (64, false), (66, false), (70, false)] [] [0, 1, 2, 3, 11, 12, 13, 14, 52, 53, 59, 60] [0, 1, 2, 3, 4] (s' := ⟨[(0, .c (.wh 0)), (1, .c (.wh 1)), (2, .c (.s (.k .i64 l2))), (3, .c (.s (.k .i64 l3))), (11, .c (.wh 2)), (12, .c (.s (.k .i64 i12_1))), (13, .c (.wh 3)), (14, .c (.wh 4)), (52, .c (.s (.k .i64 (l2 - 1)))), (53, .c (.s (.k .i64 i53_5))), (59, .c (.s (.k .i64 (((r48_2).length : Nat) : Int)))), (60, .c (.s (.k .i64 i60_17)))], [], [⟨(.ro false), 5, 1, l0.length, .b l0⟩, ⟨(.ro false), 5, 1, l1.length, .b l1⟩, ⟨.row, 5, 1, l11_1.length, .b l11_1⟩, ⟨.row, 5, 1, r57_8.length, .b r57_8⟩, ⟨.row, 5, 1, (r48_2).length, .b (l14_23.set i60_17.toNat ((l14_23.getD i60_17.toNat 0) ^^^ (r57_8.getD i60_17.toNat 0)))⟩]⟩) (by kernel_rfl) (by kernel_rfl) (allP_cons.2 ⟨g12, (allP_cons.2 ⟨g13, (allP_cons.2 ⟨g14, (allP_cons.2 ⟨g15, (allP_cons.2 ⟨g16, (allP_cons.2 ⟨g17, allP_nil⟩)⟩)⟩)⟩)⟩)⟩) ?_
                        obtain ⟨g18, h⟩ := gd_some h
                        refine W_reg hT ftL_nil [] [] [0, 1, 2, 3, 11, 12, 13, 14, 52, 53, 59, 60] [0, 1, 2, 3, 4] (s' := (mDerive_l3_E l0 l1 l2 l3 l11_1 i12_1 r48_2 i53_5 r57_8 (l14_23.set i60_17.toNat ((l14_23.getD i60_17.toNat 0) ^^^ (r57_8.getD i60_17.toNat 0))) (i60_17 + 1))) (by kernel_rfl) (allP_cons.2 ⟨g18, allP_nil⟩) ?_
                        exact mDerive_l3_M h
                      · replace h := bif_f h g20
                        refine W_co [] [0, 1, 2, 3, 11, 12, 13, 14, 52, 53] [0, 1, 2, 3, 4] (s' := ⟨[(0, .c (.wh 0)), (1, .c (.wh 1)), (2, .c (.s (.k .i64 l2))), (3, .c (.s (.k .i64 l3))), (11, .c (.wh 2)), (12, .c (.s (.k .i64 i12_1))), (13, .c (.wh 3)), (14, .c (.wh 4)), (52, .c (.s (.k .i64 (l2 - 1)))), (53, .c (.s (.k .i64 i53_5)))], [], [⟨(.ro false), 5, 1, l0.length, .b l0⟩, ⟨(.ro false), 5, 1, l1.length, .b l1⟩, ⟨.row, 5, 1, l11_1.length, .b l11_1⟩, ⟨.row, 5, 1, r57_8.length, .b r57_8⟩, ⟨.row, 5, 1, (r48_2).length, .b l14_23⟩]⟩) (by kernel_rfl) (W_exit ?_)
                        obtain ⟨g19, h⟩ := gd_some h
                        refine W_reg hT ftL_nil [] [] [0, 1, 2, 3, 11, 12, 13, 14, 52, 53] [0, 1, 2, 3, 4] (s' := (mDerive_l2_E l0 l1 l2 l3 l11_1 i12_1 r48_2 r57_8 l14_23 (i53_5 + 1))) (by kernel_rfl) (allP_cons.2 ⟨g19, allP_nil⟩) ?_
                        exact mDerive_l2_M h
                  · replace h := bif_f h g23
                    refine W_co [] [0, 1, 2, 3, 11, 12, 14] [0, 1, 2, 4] (s' := ⟨[(0, .c (.wh 0)), (1, .c (.wh 1)), (2, .c (.s (.k .i64 l2))), (3, .c (.s (.k .i64 l3))), (11, .c (.wh 2)), (12, .c (.s (.k .i64 i12_1))), (14, .c (.wh 3))], [], [⟨(.ro false), 5, 1, l0.length, .b l0⟩, ⟨(.ro false), 5, 1, l1.length, .b l1⟩, ⟨.row, 5, 1, l11_1.length, .b l11_1⟩, ⟨.row, 5, 1, (r48_2).length, .b l14_21⟩]⟩) (by kernel_rfl) (W_exit ?_)
                    obtain ⟨g21, h⟩ := gd_some h
                    refine W_reg hT ftL_nil [] [] [0, 1, 2, 3, 11, 12] [0, 1, 4] (s' := ⟨[(0, .c (.wh 0)), (1, .c (.wh 1)), (2, .c (.s (.k .i64 l2))), (3, .c (.s (.k .i64 l3))), (11, .c (.wh 2)), (12, .c (.s (.k .i64 i12_1)))], [], [⟨(.ro false), 5, 1, l0.length, .b l0⟩, ⟨(.ro false), 5, 1, l1.length, .b l1⟩, ⟨.row, 5, 1, (l11_1 ++ l14_21).length, .b (l11_1 ++ l14_21)⟩]⟩) (by kernel_rfl) (allP_cons.2 ⟨g21, allP_nil⟩) ?_
                    obtain ⟨g22, h⟩ := gd_some h
                    refine W_reg hT ftL_nil [] [] [0, 1, 2, 3, 11, 12] [0, 1, 2] (s' := (mDerive_l1_E l0 l1 l2 l3 (l11_1 ++ l14_21) (i12_1 + 1))) (by kernel_rfl) (allP_cons.2 ⟨g22, allP_nil⟩) ?_
                    exact mDerive_l1_M h
              · replace h := bif_f h g27
                refine W_co [] [3, 11] [2] (s' := ⟨[(3, .c (.s (.k .i64 l3))), (11, .c (.wh 0))], [], [⟨.row, 5, 1, l11_1.length, .b l11_1⟩]⟩) (by kernel_rfl) (W_exit ?_)
                refine W_seq ?_
                obtain ⟨g24, h⟩ := gd_some h
                obtain ⟨g25, h⟩ := gd_some h
                obtain ⟨g26, h⟩ := gd_some h
                refine W_reg hT ftL_nil [] [] [8, 9] [0] (s' := ⟨[(8, .c (.sl 0 0 l3.toNat)), (9, .c (.s (.v .nilIface)))], [], [⟨.row, 5, 1, l11_1.length, .b l11_1⟩]⟩) (by kernel_rfl) (allP_cons.2 ⟨g24, (allP_cons.2 ⟨g25, (allP_cons.2 ⟨g26, allP_nil⟩)⟩)⟩) ?_
                refine W_co [.er 9 38 .i64] [8, 9] [0] (s' := (mDerive_R (l11_1, l3.toNat, none))) (by kernel_rfl) (W_ret ?_)
                exact ⟨.inl rfl, by cases h; rfl⟩
  · rintro e s' ⟨he, rfl⟩
    refine ⟨he, fun a' w' hr => ?_⟩
    exact retS_ok tabO_ma hr (rs := [.tmp 8, .tmp 9]) rfl (objs := [0]) (by kernel_rfl)
def mup_R (r : Bool) : S := ⟨[(0, .c (.s (.b r)))], [], []⟩
def mup_ct (n : Nat) (r : Bool) : Ct := fun args H => match args with
  | [] => some ([mup n = some r], shA H.length (.c (.s (.b r))), shH H.length [])
  | _ => none
theorem mup_ok (n : Nat) (r : Bool) : FnOk Tryd.prog GK 9 (mup_ct n r) := by
  refine ⟨fun args H g av objs hF hg ρ w vals hG hp ha => ?_, _, Tryd.func9, by kernel_rfl, by kernel_rfl⟩
  obtain rfl : args = [] := by
    unfold mup_ct at hF; split at hF
    · exact rfl
    · cases hF
  simp only [mup_ct, Option.some.injEq, Prod.mk.injEq] at hF
  obtain ⟨rfl, rfl, rfl⟩ := hF
  obtain rfl := F2.inv0 ha
  have hI : ∀ w', Kp (noB (fun _ => undef)) w w' → GK w' := fun _ hk => GK.keep hk.below hG
  have h : mup n = some r := hg
  have hR0 := rel0 (gv := (fun _ => undef)) (n := 31) (w := w) (args := []) (H := []) (gl := []) (hpL (ps := []) F2.nil) (allRo_ok rfl) F2.nil GlR.nil (by simp)
  clear ha hp hg 
  refine calls_W Tryd.func9 rfl rfl hR0 (Q := fun e s => (e = .ret ∨ e = .normal) ∧ s = mup_R r) ?_ ?_
  · clear hR0
    unfold mup at h
    have hT := tabO_ma
    refine W_seq ?_
    refine W_reg hT ftL_nil [] [] [] [] (s' := ⟨[], [], []⟩) (by kernel_rfl) allP_nil ?_
    refine W_seq ?_
    refine W_reg hT ftL_nil [] [] [1] [] (s' := ⟨[(1, .c (.s (.str ([91, 220, 193, 70, 191, 96, 117, 78, 106, 4, 36, 38, 8, 149, 117, 199, 90, 0, 63, 8, 157, 39, 57, 131, 157, 236, 88, 185, 100, 236, 56, 67] : List UInt8))))], [], []⟩) (by kernel_rfl) allP_nil ?_
    refine W_seq ?_
    refine W_reg hT ftL_nil [] [] [1, 2] [] (s' := ⟨[(1, .c (.s (.str ([91, 220, 193, 70, 191, 96, 117, 78, 106, 4, 36, 38, 8, 149, 117, 199, 90, 0, 63, 8, 157, 39, 57, 131, 157, 236, 88, 185, 100, 236, 56, 67] : List UInt8)))), (2, .c (.s (.str ([85, 172, 4, 110, 86, 227, 8, 159, 236, 22, 145, 194, 37, 68, 182, 5] : List UInt8))))], [], []⟩) (by kernel_rfl) allP_nil ?_
    refine W_seq ?_
    obtain ⟨r10, g1, h⟩ := bind_some' h
    refine W_reg hT (ftL_cons (k := 4) (f := 14) (F := (mDerive_ct n r10)) (mDerive_ok n r10) hI ftL_nil) [] [] [1, 2, 3, 4] [2] (s' := ⟨[(1, .c (.s (.str ([91, 220, 193, 70, 191, 96, 117, 78, 106, 4, 36, 38, 8, 149, 117, 199, 90, 0, 63, 8, 157, 39, 57, 131, 157, 236, 88, 185, 100, 236, 56, 67] : List UInt8)))), (2, .c (.s (.str ([85, 172, 4, 110, 86, 227, 8, 159, 236, 22, 145, 194, 37, 68, 182, 5] : List UInt8)))), (3, .c (.sl 0 0 r10.2.1)), (4, .c (.s (.er 38 .i64 r10.2.2)))], [], [⟨.row, 5, 1, r10.1.length, .b r10.1⟩]⟩) (by kernel_rfl) (allP_cons.2 ⟨g1, allP_nil⟩) ?_
    refine W_seq ?_
    obtain ⟨r17, g2, h⟩ := bind_some' h
    rcases Bool.eq_false_or_eq_true (r17 == ([91, 220, 193, 70, 191, 96, 117, 78, 106, 4, 36, 38, 8, 149, 117, 199, 90, 0, 63, 8, 157, 39, 57, 131, 157, 236, 88, 185, 100, 236, 56, 67] : List UInt8)) with g3 | g3
    · replace h := bif_t h g3
      rcases Bool.eq_false_or_eq_true ((r10.2.2).isNone) with g4 | g4
      · replace h := bif_t h g4
        refine W_reg hT (ftL_cons (k := 4) (f := 11) (F := (mMark_ct n r17)) (mMark_ok n r17) hI ftL_nil) [(8, true), (12, true)] [] [0] [] (s' := ⟨[(0, .c (.s (.b (((r10.1.drop 0).take r10.2.1) == ([85, 172, 4, 110, 86, 227, 8, 159, 236, 22, 145, 194, 37, 68, 182, 5] : List UInt8)))))], [], []⟩) (by kernel_rfl) (allP_cons.2 ⟨g2, (allP_cons.2 ⟨g3, (allP_cons.2 ⟨g4, allP_nil⟩)⟩)⟩) ?_
        refine W_co [] [0] [] (s' := (mup_R (((r10.1.drop 0).take r10.2.1) == ([85, 172, 4, 110, 86, 227, 8, 159, 236, 22, 145, 194, 37, 68, 182, 5] : List UInt8)))) (by kernel_rfl) (W_ret ?_)
        exact ⟨.inl rfl, by cases h; rfl⟩
      · replace h := bif_f h g4
        refine W_reg hT (ftL_cons (k := 4) (f := 11) (F := (mMark_ct n r17)) (mMark_ok n r17) hI ftL_nil) [(8, true), (12, false)] [] [0] [] (s' := ⟨[(0, .c (.s (.b false)))], [], []⟩) (by kernel_rfl) (allP_cons.2 ⟨g2, (allP_cons.2 ⟨g3, (allP_cons.2 ⟨g4, allP_nil⟩)⟩)⟩) ?_
        refine W_co [] [0] [] (s' := (mup_R false)) (by kernel_rfl) (W_ret ?_)
        exact ⟨.inl rfl, by cases h; rfl⟩
    · replace h := bif_f h g3
      refine W_reg hT (ftL_cons (k := 4) (f := 11) (F := (mMark_ct n r17)) (mMark_ok n r17) hI ftL_nil) [(8, false)] [] [0] [] (s' := ⟨[(0, .c (.s (.b false)))], [], []⟩) (by kernel_rfl) (allP_cons.2 ⟨g2, (allP_cons.2 ⟨g3, allP_nil⟩)⟩) ?_
      refine W_co [] [0] [] (s' := (mup_R false)) (by kernel_rfl) (W_ret ?_)
      exact ⟨.inl rfl, by cases h; rfl⟩
  · rintro e s' ⟨he, rfl⟩
    refine ⟨he, fun a' w' hr => ?_⟩
    exact retS_ok tabO_ma hr (rs := [.tmp 0]) rfl (objs := []) (by kernel_rfl)
end Go.Proofs.YtamddohbpdbdmaaDoor
end
section
set_option linter.unusedVariables false
set_option linter.unusedSimpArgs false
namespace Go.Proofs.YtamddohbpdbdmaaDoor
open Go.RowKit Go.Ch Go.Sx

def tabL_mt : List (TypeId × Ti) := [(3, ⟨.int .i64, 1, 8, true, some [.int .i64]⟩),
  (5, ⟨.int .u8, 1, 1, true, some [.int .u8]⟩),
  (22, ⟨.sl 5, 1, 24, false, some [.nils]⟩),
  (35, ⟨.ifc, 1, 16, true, some [.ifc]⟩),
  (55, ⟨.sl 22, 1, 24, false, some [.nils]⟩)]
def tab_mt : Tab := fun t => (tabL_mt).lookup t
theorem tabE_mt : (tabL_mt.map fun p => tiOf Tryd.prog p.1) = tabL_mt.map fun p => some p.2 := by kernel_rfl
theorem tabO_mt : TabOk Tryd.prog tab_mt := tab_of tabE_mt

def mBased_l1 (n : Nat) (a2 : Int) : Nat → List UInt8 → Int → Option (List UInt8 × Option Int)
  | 0, _, _ => none
  | fu_l1 + 1, l9_1, i22_1 =>
    bif (decide (i22_1 < (a2 - 1))) then
      gd ((l9_1).length ≤ 100000) <|
      gd (okI .i64 (i22_1 + 1)) <|
      (mBased_l1 n a2 fu_l1) (digest consts begin8 l9_1) (i22_1 + 1)
    else
      some (l9_1, none)
def mBased (n : Nat) (a0 : List UInt8) (a1 : List UInt8) (a2 : Int) : Option (List UInt8 × Option Int) :=
  (mmay n a2).bind fun r11 =>
  bif (!((r11).isNone)) then
    some ([], r11)
  else
    gd ((([a0, a1] : List (List UInt8))).length ≤ 1000000) <|
    gd ((([a0, a1] : List (List UInt8))).flatten.length ≤ 1000000000) <|
    gd ((((([a0, a1] : List (List UInt8))).flatten)).length ≤ 100000) <|
    gd (okI .i64 (a2 - 1)) <|
    mBased_l1 n a2 n (digest consts begin8 ((([a0, a1] : List (List UInt8))).flatten)) 0
def mcut (n : Nat) (a0 : List UInt8) (a1 : Int) : Option (List UInt8 × Nat) :=
  bif (decide (a1 < ((a0.length : Nat) : Int))) then
    gd (0 ≤ a1) <|
    gd (a1 ≤ ((a0.length : Nat) : Int)) <|
    some (a0, a1.toNat)
  else
    some (a0, a0.length)

def mBased_l1_E (a2 : Int) (l9_1 : List UInt8) (i22_1 : Int) : S := ⟨[(9, .c (.wh 0)), (21, .c (.s (.k .i64 (a2 - 1)))), (22, .c (.s (.k .i64 i22_1)))], [], [⟨.row, 5, 1, l9_1.length, .b l9_1⟩]⟩
def mBased_l1_P (n : Nat) (a2 : Int) (r : List UInt8 × Option Int) (fu : Nat) : S → Prop := fun s => ∃ (l9_1 : List UInt8), ∃ (i22_1 : Int), s = mBased_l1_E a2 l9_1 i22_1 ∧ mBased_l1 n a2 fu l9_1 i22_1 = some r
theorem mBased_l1_M {n : Nat} {a2 : Int} {l9_1 : List UInt8} {i22_1 : Int} {r : List UInt8 × Option Int} {fu : Nat} (h : mBased_l1 n a2 fu l9_1 i22_1 = some r) : mBased_l1_P n a2 r fu (mBased_l1_E a2 l9_1 i22_1) := ⟨l9_1, i22_1, rfl, h⟩
def mBased_R (r : List UInt8 × Option Int) : S := ⟨[(6, .c (.wh 0)), (7, .c (.s (.er 38 .i64 r.2)))], [], [⟨.row, 5, 1, r.1.length, .b r.1⟩]⟩
def mBased_ct (n : Nat) (r : List UInt8 × Option Int) : Ct := fun args H => match args with
  | [x0, x1, x2] => (match aB H x0 with | some l0 => (match aB H x1 with | some l1 => (match aI x2 with | some l2 => some ([mBased n l0 l1 l2 = some r], shA H.length (.t [.c (.wh 0), .c (.s (.er 38 .i64 r.2))]), shH H.length [⟨.row, 5, 1, r.1.length, .b r.1⟩]) | none => none) | none => none) | none => none)
  | _ => none
theorem mBased_ok (n : Nat) (r : List UInt8 × Option Int) : FnOk Tryd.prog GK 16 (mBased_ct n r) := by
  refine ⟨fun args H g av objs hF hg ρ w vals hG hp ha => ?_, _, Tryd.func16, by kernel_rfl, by kernel_rfl⟩
  obtain ⟨x0, x1, x2, rfl⟩ : ∃ x0 x1 x2, args = [x0, x1, x2] := by
    unfold mBased_ct at hF; split at hF
    · exact ⟨_, _, _, rfl⟩
    · cases hF
  cases e0 : aB H x0 with
  | none => simp only [mBased_ct, e0, reduceCtorEq] at hF
  | some l0 =>
  cases e1 : aB H x1 with
  | none => simp only [mBased_ct, e0, e1, reduceCtorEq] at hF
  | some l1 =>
  cases e2 : aI x2 with
  | none => simp only [mBased_ct, e0, e1, e2, reduceCtorEq] at hF
  | some l2 =>
  simp only [mBased_ct, e0, e1, e2, Option.some.injEq, Prod.mk.injEq] at hF
  obtain ⟨rfl, rfl, rfl⟩ := hF
  obtain ⟨v0, vals, rfl, k0, ha⟩ := F2.inv ha
  obtain ⟨v1, vals, rfl, k1, ha⟩ := F2.inv ha
  obtain ⟨v2, vals, rfl, k2, ha⟩ := F2.inv ha
  obtain rfl := F2.inv0 ha
  have hI : ∀ w', Kp (noB (fun _ => undef)) w w' → GK w' := fun _ hk => GK.keep hk.below hG
  have h : mBased n l0 l1 l2 = some r := hg
  obtain ⟨p0, s0, o0⟩ := aB_ok hp e0 (k0) 5
  obtain ⟨p1, s1, o1⟩ := aB_ok hp e1 (k1) 5
  have s2 := aI_ok e2 (k2)
  have hR0 := rel0 (gv := (fun _ => undef)) (n := 28) (w := w) (args := [.c (.wh 0), .c (.wh 1), .c (.s (.k .i64 l2))]) (H := [⟨.ro false, 5, 1, l0.length, .b l0⟩, ⟨.ro false, 5, 1, l1.length, .b l1⟩]) (gl := []) (hpL (ps := [p0, p1]) (F2.cons o0 (F2.cons o1 F2.nil))) (allRo_ok rfl) (F2.cons s0 (F2.cons s1 (F2.cons s2 F2.nil))) GlR.nil (by simp)
  clear ha hp hg k0 k1 k2 e0 e1 e2
  refine calls_W Tryd.func16 rfl rfl hR0 (Q := fun e s => (e = .ret ∨ e = .normal) ∧ s = mBased_R r) ?_ ?_
  · clear hR0
    unfold mBased at h
    have hT := tabO_mt
    refine W_seq ?_
    refine W_reg hT ftL_nil [] [] [0, 1, 2] [0, 1] (s' := ⟨[(0, .c (.wh 0)), (1, .c (.wh 1)), (2, .c (.s (.k .i64 l2)))], [], [⟨(.ro false), 5, 1, l0.length, .b l0⟩, ⟨(.ro false), 5, 1, l1.length, .b l1⟩]⟩) (by kernel_rfl) allP_nil ?_
    refine W_seq ?_
    refine W_seq ?_
    obtain ⟨r11, g1, h⟩ := bind_some' h
    refine W_reg hT (ftL_cons (k := 1) (f := 25) (F := (mmay_ct n r11)) (mmay_ok n r11) (fun _ _ => True.intro) ftL_nil) [] [] [0, 1, 2, 8] [0, 1] (s' := ⟨[(0, .c (.wh 0)), (1, .c (.wh 1)), (2, .c (.s (.k .i64 l2))), (8, .c (.s (.er 38 .i64 r11)))], [], [⟨(.ro false), 5, 1, l0.length, .b l0⟩, ⟨(.ro false), 5, 1, l1.length, .b l1⟩]⟩) (by kernel_rfl) (allP_cons.2 ⟨g1, allP_nil⟩) ?_
    refine W_seq ?_
    refine W_reg hT ftL_nil [] [] [0, 1, 2, 8, 13] [0, 1] (s' := ⟨[(0, .c (.wh 0)), (1, .c (.wh 1)), (2, .c (.s (.k .i64 l2))), (8, .c (.s (.er 38 .i64 r11))), (13, .c (.s (.b (!((r11).isNone)))))], [], [⟨(.ro false), 5, 1, l0.length, .b l0⟩, ⟨(.ro false), 5, 1, l1.length, .b l1⟩]⟩) (by kernel_rfl) allP_nil ?_
    refine W_cond (b := (!((r11).isNone))) (by kernel_rfl) (fun g9 => ?_) (fun g9 => ?_)
    · replace h := bif_t h g9
      refine W_seq ?_
      refine W_reg hT ftL_nil [] [] [6, 7] [] (s' := ⟨[(6, .c (.nils)), (7, .c (.s (.er 38 .i64 r11)))], [], []⟩) (by kernel_rfl) allP_nil ?_
      refine W_co [.nil 6 5 1 (.b [])] [6, 7] [0] (s' := (mBased_R ([], r11))) (by kernel_rfl) (W_ret ?_)
      exact ⟨.inl rfl, by cases h; rfl⟩
    · replace h := bif_f h g9
      refine W_co [] [0, 1, 2] [0, 1] (s' := ⟨[(0, .c (.wh 0)), (1, .c (.wh 1)), (2, .c (.s (.k .i64 l2)))], [], [⟨(.ro false), 5, 1, l0.length, .b l0⟩, ⟨(.ro false), 5, 1, l1.length, .b l1⟩]⟩) (by kernel_rfl) (W_skip ?_)
      refine W_seq ?_
      obtain ⟨g2, h⟩ := gd_some h
      obtain ⟨g3, h⟩ := gd_some h
      obtain ⟨g4, h⟩ := gd_some h
      refine W_reg hT (ftL_cons (k := 3) (f := 20) (F := cat_ct) cat_h (fun _ _ => True.intro) (ftL_cons (k := 4) (f := 19) (F := sum_ct) sum_h hI ftL_nil)) [] [] [2, 9] [4] (s' := ⟨[(2, .c (.s (.k .i64 l2))), (9, .c (.wh 0))], [], [⟨.row, 5, 1, (digest consts begin8 ((([l0, l1] : List (List UInt8))).flatten)).length, .b (digest consts begin8 ((([l0, l1] : List (List UInt8))).flatten))⟩]⟩) (by kernel_rfl) (allP_cons.2 ⟨g2, (allP_cons.2 ⟨g3, (allP_cons.2 ⟨g4, allP_nil⟩)⟩)⟩) ?_
      refine W_seq ?_
      refine W_seq ?_
      obtain ⟨g5, h⟩ := gd_some h
      refine W_reg hT ftL_nil [] [] [9, 21, 22] [0] (s' := ⟨[(9, .c (.wh 0)), (21, .c (.s (.k .i64 (l2 - 1)))), (22, .c (.s (.k .i64 0)))], [], [⟨.row, 5, 1, (digest consts begin8 ((([l0, l1] : List (List UInt8))).flatten)).length, .b (digest consts begin8 ((([l0, l1] : List (List UInt8))).flatten))⟩]⟩) (by kernel_rfl) (allP_cons.2 ⟨g5, allP_nil⟩) ?_
      refine W_block ?_
      refine W_co [] [9, 21, 22] [0] (s' := (mBased_l1_E l2 (digest consts begin8 ((([l0, l1] : List (List UInt8))).flatten)) 0)) (by kernel_rfl) (W_lp ((mBased_l1_P n l2 r)) n (mBased_l1_M h) ?_)
      rintro fu_l1 _ ⟨l9_1, i22_1, rfl, h⟩
      cases fu_l1 with
      | zero => cases h
      | succ fu_l1 =>
        refine ⟨fu_l1, rfl, ?_⟩
        rw [mBased_l1] at h
        refine W_seq ?_
        refine W_reg hT ftL_nil [] [] [9, 21, 22, 23] [0] (s' := ⟨[(9, .c (.wh 0)), (21, .c (.s (.k .i64 (l2 - 1)))), (22, .c (.s (.k .i64 i22_1))), (23, .c (.s (.b (decide (i22_1 < (l2 - 1))))))], [], [⟨.row, 5, 1, l9_1.length, .b l9_1⟩]⟩) (by kernel_rfl) allP_nil ?_
        refine W_seq ?_
        refine W_cond (b := (decide (i22_1 < (l2 - 1)))) (by kernel_rfl) (fun g8 => ?_) (fun g8 => ?_)
        · replace h := bif_t h g8
          refine W_co [] [9, 21, 22] [0] (s' := ⟨[(9, .c (.wh 0)), (21, .c (.s (.k .i64 (l2 - 1)))), (22, .c (.s (.k .i64 i22_1)))], [], [⟨.row, 5, 1, l9_1.length, .b l9_1⟩]⟩) (by kernel_rfl) (W_skip ?_)
          refine W_seq ?_
          refine W_block ?_
          obtain ⟨g6, h⟩ := gd_some h
          refine W_reg hT (ftL_cons (k := 1) (f := 19) (F := sum_ct) sum_h hI ftL_nil) [] [] [9, 21, 22] [1] (s' := ⟨[(9, .c (.wh 0)), (21, .c (.s (.k .i64 (l2 - 1)))), (22, .c (.s (.k .i64 i22_1)))], [], [⟨.row, 5, 1, (digest consts begin8 l9_1).length, .b (digest consts begin8 l9_1)⟩]⟩) (by kernel_rfl) (allP_cons.2 ⟨g6, allP_nil⟩) ?_
          obtain ⟨g7, h⟩ := gd_some h
          refine W_reg hT ftL_nil [] [] [9, 21, 22] [0] (s' := (mBased_l1_E l2 (digest consts begin8 l9_1) (i22_1 + 1))) (by kernel_rfl) (allP_cons.2 ⟨g7, allP_nil⟩) ?_
          exact mBased_l1_M h
        · replace h := bif_f h g8
          refine W_co [] [9] [0] (s' := ⟨[(9, .c (.wh 0))], [], [⟨.row, 5, 1, l9_1.length, .b l9_1⟩]⟩) (by kernel_rfl) (W_exit ?_)
          refine W_seq ?_
          refine W_reg hT ftL_nil [] [] [6, 7] [0] (s' := ⟨[(6, .c (.wh 0)), (7, .c (.s (.v .nilIface)))], [], [⟨.row, 5, 1, l9_1.length, .b l9_1⟩]⟩) (by kernel_rfl) allP_nil ?_
          refine W_co [.er 7 38 .i64] [6, 7] [0] (s' := (mBased_R (l9_1, none))) (by kernel_rfl) (W_ret ?_)
          exact ⟨.inl rfl, by cases h; rfl⟩
  · rintro e s' ⟨he, rfl⟩
    refine ⟨he, fun a' w' hr => ?_⟩
    exact retS_ok tabO_mt hr (rs := [.tmp 6, .tmp 7]) rfl (objs := [0]) (by kernel_rfl)
def mcut_R (r : List UInt8 × Nat) : S := ⟨[(4, .c (.sl 0 0 r.2))], [(1000000, .c (.wh 0))], [⟨(.ro false), 5, 1, r.1.length, .b r.1⟩]⟩
def mcut_ct (n : Nat) (r : List UInt8 × Nat) : Ct := fun args H => match args with
  | [x0, x1] => (match aB H x0 with | some l0 => (match aI x1 with | some l1 => (match subC 0 r.2 x0 with | some ys => some ([mcut n l0 l1 = some r], ys, []) | none => none) | none => none) | none => none)
  | _ => none
theorem mcut_ok (n : Nat) (r : List UInt8 × Nat) : FnOk Tryd.prog Tr 10 (mcut_ct n r) := by
  refine ⟨fun args H g av objs hF hg ρ w vals hG hp ha => ?_, _, Tryd.func10, by kernel_rfl, by kernel_rfl⟩
  obtain ⟨x0, x1, rfl⟩ : ∃ x0 x1, args = [x0, x1] := by
    unfold mcut_ct at hF; split at hF
    · exact ⟨_, _, rfl⟩
    · cases hF
  cases e0 : aB H x0 with
  | none => simp only [mcut_ct, e0, reduceCtorEq] at hF
  | some l0 =>
  cases e1 : aI x1 with
  | none => simp only [mcut_ct, e0, e1, reduceCtorEq] at hF
  | some l1 =>
  cases e2 : subC 0 r.2 x0 with
  | none => simp only [mcut_ct, e0, e1, e2, reduceCtorEq] at hF
  | some ys =>
  simp only [mcut_ct, e0, e1, e2, Option.some.injEq, Prod.mk.injEq] at hF
  obtain ⟨rfl, rfl, rfl⟩ := hF
  obtain ⟨v0, vals, rfl, k0, ha⟩ := F2.inv ha
  obtain ⟨v1, vals, rfl, k1, ha⟩ := F2.inv ha
  obtain rfl := F2.inv0 ha
  have hI : ∀ w', Kp (noB (fun j => ([v0, v1] : List Value).getD j undef)) w w' → Tr w' := fun _ hk => Tr.keep hk.below hG
  have h : mcut n l0 l1 = some r := hg
  obtain ⟨p0, s0, o0⟩ := aB_ok hp e0 (k0) 5
  have s1 := aI_ok e1 (k1)
  have kk := k0
  have zz := aB_sz hp e0
  have hR0 := rel0 (gv := (fun j => ([v0, v1] : List Value).getD j undef)) (n := 13) (w := w) (args := [.c (.wh 0), .c (.s (.k .i64 l1))]) (H := [⟨.ro false, 5, 1, l0.length, .b l0⟩]) (gl := [(1000000, .c (.wh 0))]) (hpL (ps := [p0]) (F2.cons o0 F2.nil)) (allRo_ok rfl) (F2.cons s0 (F2.cons s1 F2.nil)) (GlR.cons 0 s0 GlR.nil) (by simp)
  clear ha hp hg k0 k1 e0 e1
  refine calls_W Tryd.func10 rfl rfl hR0 (Q := fun e s => (e = .ret ∨ e = .normal) ∧ s = mcut_R r) ?_ ?_
  · clear hR0
    unfold mcut at h
    have hT := tabO_mt
    refine W_seq ?_
    refine W_reg hT ftL_nil [] [] [0, 1] [0] (s' := ⟨[(0, .c (.wh 0)), (1, .c (.s (.k .i64 l1)))], [(1000000, .c (.wh 0))], [⟨(.ro false), 5, 1, l0.length, .b l0⟩]⟩) (by kernel_rfl) allP_nil ?_
    refine W_seq ?_
    refine W_seq ?_
    refine W_reg hT ftL_nil [] [] [0, 1, 8] [0] (s' := ⟨[(0, .c (.wh 0)), (1, .c (.s (.k .i64 l1))), (8, .c (.s (.b (decide (l1 < ((l0.length : Nat) : Int))))))], [(1000000, .c (.wh 0))], [⟨(.ro false), 5, 1, l0.length, .b l0⟩]⟩) (by kernel_rfl) allP_nil ?_
    refine W_cond (b := (decide (l1 < ((l0.length : Nat) : Int)))) (by kernel_rfl) (fun g3 => ?_) (fun g3 => ?_)
    · replace h := bif_t h g3
      refine W_seq ?_
      obtain ⟨g1, h⟩ := gd_some h
      obtain ⟨g2, h⟩ := gd_some h
      refine W_reg hT ftL_nil [] [] [4] [0] (s' := ⟨[(4, .c (.sl 0 0 l1.toNat))], [(1000000, .c (.wh 0))], [⟨(.ro false), 5, 1, l0.length, .b l0⟩]⟩) (by kernel_rfl) (allP_cons.2 ⟨g1, (allP_cons.2 ⟨g2, allP_nil⟩)⟩) ?_
      refine W_co [] [4] [0] (s' := (mcut_R (l0, l1.toNat))) (by kernel_rfl) (W_ret ?_)
      exact ⟨.inl rfl, by cases h; rfl⟩
    · replace h := bif_f h g3
      refine W_co [] [0] [0] (s' := ⟨[(0, .c (.wh 0))], [(1000000, .c (.wh 0))], [⟨(.ro false), 5, 1, l0.length, .b l0⟩]⟩) (by kernel_rfl) (W_skip ?_)
      refine W_seq ?_
      refine W_reg hT ftL_nil [] [] [4] [0] (s' := ⟨[(4, .c (.wh 0))], [(1000000, .c (.wh 0))], [⟨(.ro false), 5, 1, l0.length, .b l0⟩]⟩) (by kernel_rfl) allP_nil ?_
      refine W_co [.sb 4] [4] [0] (s' := (mcut_R (l0, l0.length))) (by kernel_rfl) (W_ret ?_)
      exact ⟨.inl rfl, by cases h; rfl⟩
  · rintro e s' ⟨he, rfl⟩
    refine ⟨he, fun a' w' hr => ?_⟩
    exact retB_ok (q := 0) hr rfl rfl rfl (by kernel_rfl) kk zz e2
end Go.Proofs.YtamddohbpdbdmaaDoor
end
section
set_option linter.unusedVariables false
set_option linter.unusedSimpArgs false
namespace Go.Sx
open Go.RowKit Go.Ch

/-! ### plain laws for what sx.py prints -/
theorem okI64 {n : Int} (h0 : -9223372036854775808 ≤ n) (h1 : n < 9223372036854775808) : okI .i64 n := by
  unfold okI IntKind.wrap
  simp [IntKind.bits, IntKind.signed]
  omega
theorem ite_t {α : Type} {b : Bool} {x y : α} (h : b = true) : (bif b then x else y) = x := by rw [h]; rfl
theorem ite_f {α : Type} {b : Bool} {x y : α} (h : b = false) : (bif b then x else y) = y := by rw [h]; rfl
/-- f on the first j -/
def upN {α : Type} (f : α → α) (l : List α) (j : Nat) : List α := (l.take j).map f ++ l.drop j
theorem upN_all {α : Type} (f : α → α) (l : List α) (j : Nat) (h : l.length ≤ j) : upN f l j = l.map f := by
  unfold upN; rw [List.take_of_length_le h, List.drop_of_length_le h, List.append_nil]
theorem upN_set {α : Type} (z : α) (f : α → α) (l : List α) (j : Nat) (h : j < l.length) : (upN f l j).set j (f ((upN f l j).getD j z)) = upN f l (j + 1) := by
  have hl : ((l.take j).map f).length = j := by simp; omega
  have hg : (upN f l j).getD j z = l[j] := by
    unfold upN
    rw [List.getD_eq_getElem?_getD, List.getElem?_append_right (by omega), hl, Nat.sub_self, List.getElem?_drop, Nat.add_zero, List.getElem?_eq_getElem h]
    rfl
  rw [hg]
  unfold upN
  rw [List.set_append_right _ _ (by omega), hl, Nat.sub_self, List.drop_eq_getElem_cons h, List.set_cons_zero, List.take_succ_eq_append_getElem h, List.map_append]
  simp only [List.map_cons, List.map_nil, List.append_assoc, List.singleton_append]
/-- a law's walk: what came in, what is handed back -/
theorem law_of {P : Program} {I : World → Prop} {f : FuncId} {F : Ct} {args : List AV} {H : Hp} {g : List Prop} {objs : List Oj} {ρ : Pls} {w : World} {vals : List Value} (h : FnOk P I f F) (hF : F args H = some (g, .c (.s (.b true)), objs)) (hg : allP g)
    (hI : I w) (hp : HpR ρ w H) (ha : F2 (avR ρ) args vals) : Calls P f vals.toArray w (Ret fun v w' => Ext w w' ∧ v = .bool true) :=
  calls_mono (h.ct args H g _ objs hF hg ρ w vals hI hp ha) fun _ _ ⟨hx, _, hL⟩ => ⟨hx, hL.val⟩
theorem in_b {w : World} {B : Nat} {v : Value} {l : List UInt8} (hv : Sl w B v (l.map bU)) (e : TypeId) : ∃ p, InSl w e l.length (.b l) v p := by
  have h := sl_slr hv
  rw [List.length_map] at h
  exact in_sl h (fun ρ => csR_b.2 rfl) e
end Go.Sx
end
section
set_option linter.unusedVariables false
set_option linter.unusedSimpArgs false
namespace Go.Sx
open Go Go.RowKit Go.Ch Go.Proofs.YtamddohbpdbdmaaDoor
def N64 : Nat := 18446744073709551616
abbrev Dg (l : List UInt8) : List UInt8 := digest consts begin8 l
theorem Dg_len (l : List UInt8) : (Dg l).length = 32 := length_digest _ _ _
theorem mup_is : mup N64 = some true := by decide +kernel
/-! ### the mark -/
def hkey (k : List UInt8) : List UInt8 := if 64 < k.length then Dg k else k
theorem hkey_len (k : List UInt8) : (hkey k).length ≤ 64 := by
  unfold hkey; split
  · rw [Dg_len]; omega
  · omega
def padk (k : List UInt8) : List UInt8 := k ++ List.replicate (64 - k.length) 0
theorem padk_len {k : List UInt8} (h : k.length ≤ 64) : (padk k).length = 64 := by unfold padk; simp; omega
def hmac (k b : List UInt8) : List UInt8 := Dg ((padk (hkey k)).map (· ^^^ 92) ++ Dg ((padk (hkey k)).map (· ^^^ 54) ++ b))
theorem hmac_len (k b : List UInt8) : (hmac k b).length = 32 := Dg_len _
theorem mpadded_l1_is (n : Nat) (x : UInt8) (l : List UInt8) (hl : l.length = 64) : ∀ (m i fu : Nat), i + m = 64 → m < fu → mpadded_l1 n x fu (upN (· ^^^ x) l i) (i : Int) = some (l.map (· ^^^ x)) := by
  intro m
  induction m with
  | zero =>
    intro i fu hi hf
    cases fu with
    | zero => omega
    | succ fu => rw [mpadded_l1, ite_f (by simp <;> omega), upN_all _ _ _ (by omega)]
  | succ m ih =>
    intro i fu hi hf
    cases fu with
    | zero => omega
    | succ fu =>
      rw [mpadded_l1, ite_t (by simp <;> omega), gd_pos (by omega), gd_pos (by omega), gd_pos (by omega), gd_pos (by omega), gd_pos (okI64 (by omega) (by omega)), Int.toNat_natCast, upN_set 0 (· ^^^ x) l i (by omega)]
      exact ih (i + 1) fu (by omega) (by omega)
theorem mpadded_j1_is {n : Nat} (hn : 100 ≤ n) (x : UInt8) {k : List UInt8} (hk : k.length ≤ 64) : mpadded_j1 n x k = some ((padk k).map (· ^^^ x)) := by
  unfold mpadded_j1
  rw [gd_pos (by decide), gd_pos rfl, gd_pos (by unfold rmB; decide)]
  have e : ((List.replicate 64 0).take 0 ++ k.take (min k.length 64)) ++ (List.replicate 64 0).drop (0 + min k.length 64) = padk k := by
    rw [Nat.min_eq_left hk, List.take_zero, List.nil_append, List.take_of_length_le (Nat.le_refl _), List.drop_replicate, Nat.zero_add]; rfl
  rw [e]
  exact mpadded_l1_is n x (padk k) (padk_len hk) 64 0 n (by omega) (by omega)
theorem mpadded_is {n : Nat} (hn : 100 ≤ n) (x : UInt8) {k : List UInt8} (hk : k.length ≤ 100000) : mpadded n k x = some ((padk (hkey k)).map (· ^^^ x)) := by
  unfold mpadded
  by_cases h : 64 < k.length
  · rw [ite_t (by simp <;> omega), gd_pos hk, mpadded_j1_is hn x (by rw [length_digest]; omega)]
    unfold hkey; rw [if_pos h]
  · rw [ite_f (by simp <;> omega), mpadded_j1_is hn x (by omega)]
    unfold hkey; rw [if_neg h]
theorem fl2 (x y : List UInt8) : ([x, y] : List (List UInt8)).flatten = x ++ y := by simp
theorem mMark_is {n : Nat} (hn : 100 ≤ n) {k b : List UInt8} (hk : k.length ≤ 90000) (hb : b.length ≤ 90000) : mMark n k b = some (hmac k b) := by
  have hl := padk_len (hkey_len k)
  unfold mMark
  rw [mpadded_is hn 54 (by omega), Option.bind_some, fl2, gd_pos (by simp), gd_pos (by simp [hl]; omega), gd_pos (by simp [hl]; omega), mpadded_is hn 92 (by omega), Option.bind_some, fl2, gd_pos (by simp), gd_pos (by simp [hl, length_digest]), gd_pos (by simp [hl, length_digest])]
  rfl
/-! ### the derived key -/
def xorN (a u : List UInt8) : Nat → List UInt8
  | 0 => a
  | k + 1 => (xorN a u k).set k ((xorN a u k).getD k 0 ^^^ u.getD k 0)
theorem xorN_len (a u : List UInt8) : ∀ k, (xorN a u k).length = a.length
  | 0 => rfl
  | k + 1 => by rw [xorN, List.length_set, xorN_len a u k]
theorem xorN_zero (a u : List UInt8) : xorN a u 0 = a := rfl
theorem xorN_succ (a u : List UInt8) (k : Nat) : (xorN a u k).set k ((xorN a u k).getD k 0 ^^^ u.getD k 0) = xorN a u (k + 1) := rfl
attribute [irreducible] xorN
def rnd (key : List UInt8) : Nat → List UInt8 × List UInt8 → List UInt8 × List UInt8
  | 0, p => p
  | k + 1, p => rnd key k (hmac key p.1, xorN p.2 (hmac key p.1) 32)
theorem rnd_len (key : List UInt8) : ∀ (k : Nat) (p : List UInt8 × List UInt8), (rnd key k p).2.length = p.2.length
  | 0, p => rfl
  | k + 1, p => (rnd_len key k (hmac key p.1, xorN p.2 (hmac key p.1) 32)).trans (xorN_len p.2 (hmac key p.1) 32)
def blk (key salt : List UInt8) (r i : Nat) : List UInt8 :=
  (rnd key (r - 1) (hmac key (salt ++ [0, 0, UInt8.ofInt ((i : Int) / 2 ^ 8), UInt8.ofInt (i : Int)]), hmac key (salt ++ [0, 0, UInt8.ofInt ((i : Int) / 2 ^ 8), UInt8.ofInt (i : Int)]))).2
theorem blk_len (key salt : List UInt8) (r i : Nat) : (blk key salt r i).length = 32 := by
  unfold blk; exact (rnd_len _ _ _).trans (hmac_len _ _)
def outS (key salt : List UInt8) (r : Nat) : Nat → List UInt8
  | 0 => []
  | m + 1 => outS key salt r m ++ blk key salt r (m + 1)
theorem outS_len (key salt : List UInt8) (r : Nat) : ∀ m, (outS key salt r m).length = 32 * m
  | 0 => rfl
  | m + 1 => by rw [outS, List.length_append, outS_len key salt r m, blk_len]; omega
theorem mDerive_l3_is (n : Nat) (a0 a1 : List UInt8) (a2 a3 : Int) (l11 : List UInt8) (i12 : Int) (r48 : List UInt8) (h48 : r48.length = 32) (j : Nat) (hj : j ≤ 100000) (u : List UInt8) (hu : u.length = 32) (al : List UInt8) (k : List UInt8 → List UInt8 → Int → Option (List UInt8 × Nat × Option Int)) :
    ∀ (m i fu : Nat), i + m = 32 → m < fu → mDerive_l3 n a0 a1 a2 a3 l11 i12 r48 (j : Int) u k fu (xorN al u i) (i : Int) = k u (xorN al u 32) ((j : Int) + 1) := by
  intro m
  induction m with
  | zero =>
    intro i fu hi hf
    obtain rfl : i = 32 := by omega
    cases fu with
    | zero => omega
    | succ fu => rw [mDerive_l3, ite_f (by simp <;> omega), gd_pos (okI64 (by omega) (by omega))]
  | succ m ih =>
    intro i fu hi hf
    cases fu with
    | zero => omega
    | succ fu =>
      rw [mDerive_l3, ite_t (by simp <;> omega), gd_pos (by omega), gd_pos (by omega), gd_pos (by omega), gd_pos (by omega), gd_pos (by omega), gd_pos (by omega), gd_pos (okI64 (by omega) (by omega)), Int.toNat_natCast, xorN_succ]
      exact ih (i + 1) fu (by omega) (by omega)
theorem mDerive_l2_is {n : Nat} (hn : 200 ≤ n) (a0 a1 : List UInt8) (h0 : a0.length ≤ 4000) (r : Nat) (hr : r ≤ 10000) (hr1 : 1 ≤ r) (a3 : Int) (l11 : List UInt8) (h11 : l11.length ≤ 1000000) (i12 : Nat) (h12 : i12 ≤ 1000000) (r48 : List UInt8) (h48 : r48.length = 32) (k : List UInt8 → Int → Option (List UInt8 × Nat × Option Int)) :
    ∀ (m j fu : Nat) (p : List UInt8 × List UInt8), j + m = r - 1 → m < fu → p.1.length = 32 → mDerive_l2 n a0 a1 (r : Int) a3 l11 (i12 : Int) r48 k fu p.1 p.2 (j : Int) = k (l11 ++ (rnd a0 m p).2) ((i12 : Int) + 1) := by
  intro m
  induction m with
  | zero =>
    intro j fu p hj hf hp
    cases fu with
    | zero => omega
    | succ fu => rw [mDerive_l2, ite_f (by simp <;> omega), gd_pos (by unfold rmB; omega), gd_pos (okI64 (by omega) (by omega))]; rfl
  | succ m ih =>
    intro j fu p hj hf hp
    cases fu with
    | zero => omega
    | succ fu =>
      rw [mDerive_l2, ite_t (by simp <;> omega), mMark_is (by omega) (by omega) (by omega), Option.bind_some]
      have h3 := mDerive_l3_is n a0 a1 (r : Int) a3 l11 i12 r48 h48 j (by omega) (hmac a0 p.1) (hmac_len _ _) p.2 (mDerive_l2 n a0 a1 (r : Int) a3 l11 i12 r48 k fu) 32 0 n (by omega) (by omega)
      rw [show ((0 : Nat) : Int) = 0 from rfl] at h3
      rw [xorN_zero] at h3
      rw [h3, rnd]
      have hl := hmac_len a0 p.1
      generalize xorN p.2 (hmac a0 p.1) 32 = z
      generalize hmac a0 p.1 = u at hl ⊢
      exact ih (j + 1) fu (u, z) (by omega) (by omega) hl
theorem mDerive_l1_is {n : Nat} (hn : 100000 ≤ n) (a0 a1 : List UInt8) (h0 : a0.length ≤ 4000) (h1 : a1.length ≤ 4000) (r : Nat) (hr : r ≤ 10000) (hr1 : 1 ≤ r) (len : Nat) (hl : len ≤ 1000) (M : Nat) (hM : len ≤ 32 * M) (hM2 : M = 0 ∨ 32 * (M - 1) < len) :
    ∀ (m i fu : Nat), i + m = M → m < fu → mDerive_l1 n a0 a1 (r : Int) (len : Int) fu (outS a0 a1 r i) ((i : Int) + 1) = some (outS a0 a1 r M, len, none) := by
  intro m
  induction m with
  | zero =>
    intro i fu hi hf
    obtain rfl : i = M := by omega
    have ho := outS_len a0 a1 r i
    cases fu with
    | zero => omega
    | succ fu => rw [mDerive_l1, ite_f (by simp <;> omega), gd_pos (by omega), gd_pos (by omega), gd_pos (by omega), Int.toNat_natCast]
  | succ m ih =>
    intro i fu hi hf
    have ho := outS_len a0 a1 r i
    cases fu with
    | zero => omega
    | succ fu =>
      have hb : (((i : Int) + 1) = ((i + 1 : Nat) : Int)) := by omega
      rw [mDerive_l1, ite_t (by simp <;> omega), fl2, gd_pos (by decide), gd_pos (by decide), gd_pos (by simp), gd_pos (by simp; omega), hb, mMark_is (by omega) (by omega) (by simp; omega), Option.bind_some, gd_pos (by rw [hmac_len]; omega), gd_pos (okI64 (by omega) (by omega))]
      have h2 := mDerive_l2_is (n := n) (by omega) a0 a1 h0 r hr hr1 (len : Int) (outS a0 a1 r i) (by omega) (i + 1) (by omega) (hmac a0 (a1 ++ [0, 0, UInt8.ofInt (((i + 1 : Nat) : Int) / 2 ^ 8), UInt8.ofInt ((i + 1 : Nat) : Int)])) (hmac_len _ _) (mDerive_l1 n a0 a1 (r : Int) (len : Int) fu) (r - 1) 0 n (hmac a0 (a1 ++ [0, 0, UInt8.ofInt (((i + 1 : Nat) : Int) / 2 ^ 8), UInt8.ofInt ((i + 1 : Nat) : Int)]), hmac a0 (a1 ++ [0, 0, UInt8.ofInt (((i + 1 : Nat) : Int) / 2 ^ 8), UInt8.ofInt ((i + 1 : Nat) : Int)])) (by omega) (by omega) (hmac_len _ _)
      rw [show ((0 : Nat) : Int) = 0 from rfl] at h2
      rw [h2]
      exact ih (i + 1) fu (by omega) (by omega)
theorem mmay_is (n : Nat) (r : Int) : mmay n r = some (if r < 1 then some 1 else if 10000 < r then some 4 else none) := by
  unfold mmay
  by_cases h : r < 1
  · rw [ite_t (by simpa using h), if_pos h]
  · rw [ite_f (by simpa using h), if_neg h]
    by_cases h2 : 10000 < r
    · rw [ite_t (by simpa using h2), if_pos h2]
    · rw [ite_f (by simpa using h2), if_neg h2]
theorem mDerive_is {n : Nat} (hn : 100000 ≤ n) {a0 a1 : List UInt8} (h0 : a0.length ≤ 4000) (h1 : a1.length ≤ 4000) {r len : Nat} (hr1 : 1 ≤ r) (hr : r ≤ 10000) (hl : len ≤ 256) :
    mDerive n a0 a1 (r : Int) (len : Int) = some (outS a0 a1 r ((len + 31) / 32), len, none) := by
  unfold mDerive
  rw [ite_f (by simp <;> omega), ite_f (by simp <;> omega), mmay_is, Option.bind_some, if_neg (by omega), if_neg (by omega), ite_f (by rfl), ite_f (by simp <;> omega)]
  exact mDerive_l1_is hn a0 a1 h0 h1 r hr hr1 len (by omega) _ (by omega) (by omega) ((len + 31) / 32) 0 n (by omega) (by omega)
/-! ### the based key -/
def baseN (l : List UInt8) : Nat → List UInt8
  | 0 => l
  | k + 1 => Dg (baseN l k)
theorem baseN_succ (l : List UInt8) : ∀ k, baseN l (k + 1) = baseN (Dg l) k
  | 0 => rfl
  | k + 1 => by rw [baseN, baseN_succ l k, baseN]
theorem baseN_len {l : List UInt8} (h : l.length = 32) : ∀ k, (baseN l k).length = 32
  | 0 => h
  | k + 1 => Dg_len _
theorem mBased_l1_is (n : Nat) (r : Nat) (hr : r ≤ 100000) (hr1 : 1 ≤ r) : ∀ (m i fu : Nat) (l : List UInt8), i + m = r - 1 → m < fu → l.length = 32 → mBased_l1 n (r : Int) fu l (i : Int) = some (baseN l m, none) := by
  intro m
  induction m with
  | zero =>
    intro i fu l hi hf hl
    cases fu with
    | zero => omega
    | succ fu => rw [mBased_l1, ite_f (by simp <;> omega)]; rfl
  | succ m ih =>
    intro i fu l hi hf hl
    cases fu with
    | zero => omega
    | succ fu =>
      rw [mBased_l1, ite_t (by simp <;> omega), gd_pos (by omega), gd_pos (okI64 (by omega) (by omega)), baseN_succ]
      exact ih (i + 1) fu (Dg l) (by omega) (by omega) (Dg_len _)
theorem mBased_is {n : Nat} (hn : 100000 ≤ n) {a0 a1 : List UInt8} (h0 : a0.length ≤ 4000) (h1 : a1.length ≤ 4000) {r : Nat} (hr1 : 1 ≤ r) (hr : r ≤ 10000) :
    mBased n a0 a1 (r : Int) = some (baseN (Dg (a0 ++ a1)) (r - 1), none) := by
  unfold mBased
  rw [mmay_is, Option.bind_some, if_neg (by omega), if_neg (by omega), ite_f (by rfl), fl2, gd_pos (by simp), gd_pos (by simp; omega), gd_pos (by simp; omega), gd_pos (okI64 (by omega) (by omega))]
  exact mBased_l1_is n r (by omega) hr1 (r - 1) 0 n _ (by omega) (by omega) (Dg_len _)
theorem mcut_is (n : Nat) (a : List UInt8) (k : Nat) : ∃ m, mcut n a (k : Int) = some (a, m) ∧ ((a.drop 0).take m).length ≤ k ∧ ((a.drop 0).take m).length = m := by
  unfold mcut
  by_cases h : (k : Int) < (a.length : Int)
  · rw [ite_t (by simpa using h), gd_pos (by omega), gd_pos (by omega)]
    exact ⟨k, by rw [Int.toNat_natCast], by simp; omega, by simp; omega⟩
  · rw [ite_f (by simpa using h)]
    exact ⟨a.length, rfl, by simp; omega, by simp⟩
end Go.Sx
end
section
set_option linter.unusedVariables false
set_option linter.unusedSimpArgs false
namespace Go.Proofs.YtamddohbpdbdmaaDoor
open Go.RowKit Go.Ch Go.Sx

def tabL_mvstays : List (TypeId × Ti) := [(5, ⟨.int .u8, 1, 1, true, some [.int .u8]⟩),
  (9, ⟨.str, 1, 16, true, some [.str]⟩),
  (22, ⟨.sl 5, 1, 24, false, some [.nils]⟩),
  (35, ⟨.ifc, 1, 16, true, some [.ifc]⟩)]
def tab_mvstays : Tab := fun t => (tabL_mvstays).lookup t
theorem tabE_mvstays : (tabL_mvstays.map fun p => tiOf Tryd.prog p.1) = tabL_mvstays.map fun p => some p.2 := by kernel_rfl
theorem tabO_mvstays : TabOk Tryd.prog tab_mvstays := tab_of tabE_mvstays

def lStays_l2 (n : Nat) (a0 : List UInt8) (a1 : List UInt8) (r21 : Bool) (r23 : List UInt8 × Nat) (r25 : List UInt8 × Nat) (r34 : List UInt8) (r38 : List UInt8 × Nat × Option Int) (r44 : List UInt8 × Option Int) : Nat → List UInt8 → Int → Option (Bool)
  | 0, _, _ => none
  | fu_l2 + 1, l9_4, i16_4 =>
    bif (decide (i16_4 < ((r38.2.1 : Nat) : Int))) then
      gd (0 ≤ i16_4) <|
      gd (i16_4 < ((r38.2.1 : Nat) : Int)) <|
      gd (0 ≤ i16_4) <|
      gd (i16_4 < ((r38.2.1 : Nat) : Int)) <|
      gd (okI .i64 (i16_4 + 1)) <|
      (lStays_l2 n a0 a1 r21 r23 r25 r34 r38 r44 fu_l2) (l9_4.set i16_4.toNat ((l9_4.getD i16_4.toNat 0) + (1 : UInt8))) (i16_4 + 1)
    else
      (mDerive n ((a0.drop 0).take r23.2) ((a1.drop 0).take r25.2) 2 40).bind fun r98 =>
      (mBased n ((a0.drop 0).take r23.2) ((a1.drop 0).take r25.2) 2).bind fun r104 =>
      bif r21 then
        bif (([] ++ ((a1.drop 0).take r25.2)) == ((a1.drop 0).take r25.2)) then
          bif ((r38.2.2).isNone) then
            bif ((r44.2).isNone) then
              bif ((r98.2.2).isNone) then
                bif ((r104.2).isNone) then
                  (mMark n ((a0.drop 0).take r23.2) ((a1.drop 0).take r25.2)).bind fun r130 =>
                  gd (r130.length + ((r98.1.drop 0).take r98.2.1).length ≤ 9223372036854775807) <|
                  gd ((r130 ++ ((r98.1.drop 0).take r98.2.1)).length + r104.1.length ≤ 9223372036854775807) <|
                  some (((r130 ++ ((r98.1.drop 0).take r98.2.1)) ++ r104.1) == ((r34 ++ ((r38.1.drop 0).take r38.2.1)) ++ r44.1))
                else
                  some false
              else
                some false
            else
              some false
          else
            some false
        else
          some false
      else
        some false
def lStays_l1 (n : Nat) (a0 : List UInt8) (a1 : List UInt8) (r21 : Bool) (r23 : List UInt8 × Nat) (r25 : List UInt8 × Nat) (r34 : List UInt8) (r38 : List UInt8 × Nat × Option Int) (r44 : List UInt8 × Option Int) : Nat → List UInt8 → Int → Option (Bool)
  | 0, _, _ => none
  | fu_l1 + 1, l8_4, i15_4 =>
    bif (decide (i15_4 < ((r34.length : Nat) : Int))) then
      gd (0 ≤ i15_4) <|
      gd (i15_4 < ((r34.length : Nat) : Int)) <|
      gd (0 ≤ i15_4) <|
      gd (i15_4 < ((r34.length : Nat) : Int)) <|
      gd (okI .i64 (i15_4 + 1)) <|
      (lStays_l1 n a0 a1 r21 r23 r25 r34 r38 r44 fu_l1) (l8_4.set i15_4.toNat ((l8_4.getD i15_4.toNat 0) + (1 : UInt8))) (i15_4 + 1)
    else
      lStays_l2 n a0 a1 r21 r23 r25 r34 r38 r44 n r38.1 0
def lStays_l4 (n : Nat) (a0 : List UInt8) (a1 : List UInt8) (r21 : Bool) (r23 : List UInt8 × Nat) (r25 : List UInt8 × Nat) (r34 : List UInt8) (r38 : List UInt8 × Nat × Option Int) (r44 : List UInt8 × Option Int) : Nat → List UInt8 → Int → Option (Bool)
  | 0, _, _ => none
  | fu_l4 + 1, l9_5, i16_5 =>
    bif (decide (i16_5 < ((r38.2.1 : Nat) : Int))) then
      gd (0 ≤ i16_5) <|
      gd (i16_5 < ((r38.2.1 : Nat) : Int)) <|
      gd (0 ≤ i16_5) <|
      gd (i16_5 < ((r38.2.1 : Nat) : Int)) <|
      gd (okI .i64 (i16_5 + 1)) <|
      (lStays_l4 n a0 a1 r21 r23 r25 r34 r38 r44 fu_l4) (l9_5.set i16_5.toNat ((l9_5.getD i16_5.toNat 0) + (1 : UInt8))) (i16_5 + 1)
    else
      (mDerive n ((a0.drop 0).take r23.2) ((a1.drop 0).take r25.2) 2 40).bind fun r98 =>
      (mBased n ((a0.drop 0).take r23.2) ((a1.drop 0).take r25.2) 2).bind fun r104 =>
      bif r21 then
        some false
      else
        some false
def lStays_l3 (n : Nat) (a0 : List UInt8) (a1 : List UInt8) (r21 : Bool) (r23 : List UInt8 × Nat) (r25 : List UInt8 × Nat) (r34 : List UInt8) (r38 : List UInt8 × Nat × Option Int) (r44 : List UInt8 × Option Int) : Nat → List UInt8 → Int → Option (Bool)
  | 0, _, _ => none
  | fu_l3 + 1, l8_5, i15_5 =>
    bif (decide (i15_5 < ((r34.length : Nat) : Int))) then
      gd (0 ≤ i15_5) <|
      gd (i15_5 < ((r34.length : Nat) : Int)) <|
      gd (0 ≤ i15_5) <|
      gd (i15_5 < ((r34.length : Nat) : Int)) <|
      gd (okI .i64 (i15_5 + 1)) <|
      (lStays_l3 n a0 a1 r21 r23 r25 r34 r38 r44 fu_l3) (l8_5.set i15_5.toNat ((l8_5.getD i15_5.toNat 0) + (1 : UInt8))) (i15_5 + 1)
    else
      lStays_l4 n a0 a1 r21 r23 r25 r34 r38 r44 n r38.1 0
def lStays (n : Nat) (a0 : List UInt8) (a1 : List UInt8) : Option (Bool) :=
  (mup n).bind fun r21 =>
  (mcut n a0 300).bind fun r23 =>
  (mcut n a1 300).bind fun r25 =>
  gd (rmB (0 + r23.2) 1) <|
  gd (rmB (0 + r25.2) 1) <|
  (mMark n ([] ++ ((a0.drop 0).take r23.2)) ([] ++ ((a1.drop 0).take r25.2))).bind fun r34 =>
  (mDerive n ([] ++ ((a0.drop 0).take r23.2)) ([] ++ ((a1.drop 0).take r25.2)) 2 40).bind fun r38 =>
  (mBased n ([] ++ ((a0.drop 0).take r23.2)) ([] ++ ((a1.drop 0).take r25.2)) 2).bind fun r44 =>
  bif (([] ++ ((a0.drop 0).take r23.2)) == ((a0.drop 0).take r23.2)) then
    gd (r34.length + ((r38.1.drop 0).take r38.2.1).length ≤ 9223372036854775807) <|
    gd ((r34 ++ ((r38.1.drop 0).take r38.2.1)).length + r44.1.length ≤ 9223372036854775807) <|
    lStays_l1 n a0 a1 r21 r23 r25 r34 r38 r44 n r34 0
  else
    gd (r34.length + ((r38.1.drop 0).take r38.2.1).length ≤ 9223372036854775807) <|
    gd ((r34 ++ ((r38.1.drop 0).take r38.2.1)).length + r44.1.length ≤ 9223372036854775807) <|
    lStays_l3 n a0 a1 r21 r23 r25 r34 r38 r44 n r34 0

def lStays_l2_E (a0 : List UInt8) (a1 : List UInt8) (r21 : Bool) (r23 : List UInt8 × Nat) (r25 : List UInt8 × Nat) (r34 : List UInt8) (r38 : List UInt8 × Nat × Option Int) (r44 : List UInt8 × Option Int) (l9_4 : List UInt8) (i16_4 : Int) : S := ⟨[(0, .c (.wh 0)), (1, .c (.wh 1)), (5, .c (.s (.b r21))), (9, .c (.sl 2 0 r38.2.1)), (10, .c (.s (.er 38 .i64 r38.2.2))), (12, .c (.s (.er 38 .i64 r44.2))), (13, .c (.s (.b (([] ++ ((a1.drop 0).take r25.2)) == ((a1.drop 0).take r25.2))))), (14, .c (.s (.str ((r34 ++ ((r38.1.drop 0).take r38.2.1)) ++ r44.1)))), (16, .c (.s (.k .i64 i16_4)))], [], [⟨(.ro false), 5, 1, r23.2, .b ((a0.drop 0).take r23.2)⟩, ⟨(.ro false), 5, 1, r25.2, .b ((a1.drop 0).take r25.2)⟩, ⟨.row, 5, 1, r38.1.length, .b l9_4⟩]⟩
def lStays_l2_P (n : Nat) (a0 : List UInt8) (a1 : List UInt8) (r21 : Bool) (r23 : List UInt8 × Nat) (r25 : List UInt8 × Nat) (r34 : List UInt8) (r38 : List UInt8 × Nat × Option Int) (r44 : List UInt8 × Option Int) (r : Bool) (fu : Nat) : S → Prop := fun s => ∃ (l9_4 : List UInt8), ∃ (i16_4 : Int), s = lStays_l2_E a0 a1 r21 r23 r25 r34 r38 r44 l9_4 i16_4 ∧ lStays_l2 n a0 a1 r21 r23 r25 r34 r38 r44 fu l9_4 i16_4 = some r
theorem lStays_l2_M {n : Nat} {a0 : List UInt8} {a1 : List UInt8} {r21 : Bool} {r23 : List UInt8 × Nat} {r25 : List UInt8 × Nat} {r34 : List UInt8} {r38 : List UInt8 × Nat × Option Int} {r44 : List UInt8 × Option Int} {l9_4 : List UInt8} {i16_4 : Int} {r : Bool} {fu : Nat} (h : lStays_l2 n a0 a1 r21 r23 r25 r34 r38 r44 fu l9_4 i16_4 = some r) : lStays_l2_P n a0 a1 r21 r23 r25 r34 r38 r44 r fu (lStays_l2_E a0 a1 r21 r23 r25 r34 r38 r44 l9_4 i16_4) := ⟨l9_4, i16_4, rfl, h⟩
def lStays_l1_E (a0 : List UInt8) (a1 : List UInt8) (r21 : Bool) (r23 : List UInt8 × Nat) (r25 : List UInt8 × Nat) (r34 : List UInt8) (r38 : List UInt8 × Nat × Option Int) (r44 : List UInt8 × Option Int) (l8_4 : List UInt8) (i15_4 : Int) : S := ⟨[(0, .c (.wh 0)), (1, .c (.wh 1)), (5, .c (.s (.b r21))), (8, .c (.wh 2)), (9, .c (.sl 3 0 r38.2.1)), (10, .c (.s (.er 38 .i64 r38.2.2))), (12, .c (.s (.er 38 .i64 r44.2))), (13, .c (.s (.b (([] ++ ((a1.drop 0).take r25.2)) == ((a1.drop 0).take r25.2))))), (14, .c (.s (.str ((r34 ++ ((r38.1.drop 0).take r38.2.1)) ++ r44.1)))), (15, .c (.s (.k .i64 i15_4)))], [], [⟨(.ro false), 5, 1, r23.2, .b ((a0.drop 0).take r23.2)⟩, ⟨(.ro false), 5, 1, r25.2, .b ((a1.drop 0).take r25.2)⟩, ⟨.row, 5, 1, r34.length, .b l8_4⟩, ⟨.row, 5, 1, r38.1.length, .b r38.1⟩]⟩
def lStays_l1_P (n : Nat) (a0 : List UInt8) (a1 : List UInt8) (r21 : Bool) (r23 : List UInt8 × Nat) (r25 : List UInt8 × Nat) (r34 : List UInt8) (r38 : List UInt8 × Nat × Option Int) (r44 : List UInt8 × Option Int) (r : Bool) (fu : Nat) : S → Prop := fun s => ∃ (l8_4 : List UInt8), ∃ (i15_4 : Int), s = lStays_l1_E a0 a1 r21 r23 r25 r34 r38 r44 l8_4 i15_4 ∧ lStays_l1 n a0 a1 r21 r23 r25 r34 r38 r44 fu l8_4 i15_4 = some r
theorem lStays_l1_M {n : Nat} {a0 : List UInt8} {a1 : List UInt8} {r21 : Bool} {r23 : List UInt8 × Nat} {r25 : List UInt8 × Nat} {r34 : List UInt8} {r38 : List UInt8 × Nat × Option Int} {r44 : List UInt8 × Option Int} {l8_4 : List UInt8} {i15_4 : Int} {r : Bool} {fu : Nat} (h : lStays_l1 n a0 a1 r21 r23 r25 r34 r38 r44 fu l8_4 i15_4 = some r) : lStays_l1_P n a0 a1 r21 r23 r25 r34 r38 r44 r fu (lStays_l1_E a0 a1 r21 r23 r25 r34 r38 r44 l8_4 i15_4) := ⟨l8_4, i15_4, rfl, h⟩
def lStays_l4_E (a0 : List UInt8) (a1 : List UInt8) (r21 : Bool) (r23 : List UInt8 × Nat) (r25 : List UInt8 × Nat) (r34 : List UInt8) (r38 : List UInt8 × Nat × Option Int) (r44 : List UInt8 × Option Int) (l9_5 : List UInt8) (i16_5 : Int) : S := ⟨[(0, .c (.wh 0)), (1, .c (.wh 1)), (5, .c (.s (.b r21))), (9, .c (.sl 2 0 r38.2.1)), (10, .c (.s (.er 38 .i64 r38.2.2))), (12, .c (.s (.er 38 .i64 r44.2))), (13, .c (.s (.b false))), (14, .c (.s (.str ((r34 ++ ((r38.1.drop 0).take r38.2.1)) ++ r44.1)))), (16, .c (.s (.k .i64 i16_5)))], [], [⟨(.ro false), 5, 1, r23.2, .b ((a0.drop 0).take r23.2)⟩, ⟨(.ro false), 5, 1, r25.2, .b ((a1.drop 0).take r25.2)⟩, ⟨.row, 5, 1, r38.1.length, .b l9_5⟩]⟩
def lStays_l4_P (n : Nat) (a0 : List UInt8) (a1 : List UInt8) (r21 : Bool) (r23 : List UInt8 × Nat) (r25 : List UInt8 × Nat) (r34 : List UInt8) (r38 : List UInt8 × Nat × Option Int) (r44 : List UInt8 × Option Int) (r : Bool) (fu : Nat) : S → Prop := fun s => ∃ (l9_5 : List UInt8), ∃ (i16_5 : Int), s = lStays_l4_E a0 a1 r21 r23 r25 r34 r38 r44 l9_5 i16_5 ∧ lStays_l4 n a0 a1 r21 r23 r25 r34 r38 r44 fu l9_5 i16_5 = some r
theorem lStays_l4_M {n : Nat} {a0 : List UInt8} {a1 : List UInt8} {r21 : Bool} {r23 : List UInt8 × Nat} {r25 : List UInt8 × Nat} {r34 : List UInt8} {r38 : List UInt8 × Nat × Option Int} {r44 : List UInt8 × Option Int} {l9_5 : List UInt8} {i16_5 : Int} {r : Bool} {fu : Nat} (h : lStays_l4 n a0 a1 r21 r23 r25 r34 r38 r44 fu l9_5 i16_5 = some r) : lStays_l4_P n a0 a1 r21 r23 r25 r34 r38 r44 r fu (lStays_l4_E a0 a1 r21 r23 r25 r34 r38 r44 l9_5 i16_5) := ⟨l9_5, i16_5, rfl, h⟩
def lStays_l3_E (a0 : List UInt8) (a1 : List UInt8) (r21 : Bool) (r23 : List UInt8 × Nat) (r25 : List UInt8 × Nat) (r34 : List UInt8) (r38 : List UInt8 × Nat × Option Int) (r44 : List UInt8 × Option Int) (l8_5 : List UInt8) (i15_5 : Int) : S := ⟨[(0, .c (.wh 0)), (1, .c (.wh 1)), (5, .c (.s (.b r21))), (8, .c (.wh 2)), (9, .c (.sl 3 0 r38.2.1)), (10, .c (.s (.er 38 .i64 r38.2.2))), (12, .c (.s (.er 38 .i64 r44.2))), (13, .c (.s (.b false))), (14, .c (.s (.str ((r34 ++ ((r38.1.drop 0).take r38.2.1)) ++ r44.1)))), (15, .c (.s (.k .i64 i15_5)))], [], [⟨(.ro false), 5, 1, r23.2, .b ((a0.drop 0).take r23.2)⟩, ⟨(.ro false), 5, 1, r25.2, .b ((a1.drop 0).take r25.2)⟩, ⟨.row, 5, 1, r34.length, .b l8_5⟩, ⟨.row, 5, 1, r38.1.length, .b r38.1⟩]⟩
def lStays_l3_P (n : Nat) (a0 : List UInt8) (a1 : List UInt8) (r21 : Bool) (r23 : List UInt8 × Nat) (r25 : List UInt8 × Nat) (r34 : List UInt8) (r38 : List UInt8 × Nat × Option Int) (r44 : List UInt8 × Option Int) (r : Bool) (fu : Nat) : S → Prop := fun s => ∃ (l8_5 : List UInt8), ∃ (i15_5 : Int), s = lStays_l3_E a0 a1 r21 r23 r25 r34 r38 r44 l8_5 i15_5 ∧ lStays_l3 n a0 a1 r21 r23 r25 r34 r38 r44 fu l8_5 i15_5 = some r
theorem lStays_l3_M {n : Nat} {a0 : List UInt8} {a1 : List UInt8} {r21 : Bool} {r23 : List UInt8 × Nat} {r25 : List UInt8 × Nat} {r34 : List UInt8} {r38 : List UInt8 × Nat × Option Int} {r44 : List UInt8 × Option Int} {l8_5 : List UInt8} {i15_5 : Int} {r : Bool} {fu : Nat} (h : lStays_l3 n a0 a1 r21 r23 r25 r34 r38 r44 fu l8_5 i15_5 = some r) : lStays_l3_P n a0 a1 r21 r23 r25 r34 r38 r44 r fu (lStays_l3_E a0 a1 r21 r23 r25 r34 r38 r44 l8_5 i15_5) := ⟨l8_5, i15_5, rfl, h⟩
def lStays_R (r : Bool) : S := ⟨[(4, .c (.s (.b r)))], [], []⟩
def lStays_ct (n : Nat) (r : Bool) : Ct := fun args H => match args with
  | [x0, x1] => (match aB H x0 with | some l0 => (match aB H x1 with | some l1 => some ([lStays n l0 l1 = some r], shA H.length (.c (.s (.b r))), shH H.length []) | none => none) | none => none)
  | _ => none
theorem lStays_ok (n : Nat) (r : Bool) : FnOk Tryd.prog GK 8 (lStays_ct n r) := by
  refine ⟨fun args H g av objs hF hg ρ w vals hG hp ha => ?_, _, Tryd.func8, by kernel_rfl, by kernel_rfl⟩
  obtain ⟨x0, x1, rfl⟩ : ∃ x0 x1, args = [x0, x1] := by
    unfold lStays_ct at hF; split at hF
    · exact ⟨_, _, rfl⟩
    · cases hF
  cases e0 : aB H x0 with
  | none => simp only [lStays_ct, e0, reduceCtorEq] at hF
  | some l0 =>
  cases e1 : aB H x1 with
  | none => simp only [lStays_ct, e0, e1, reduceCtorEq] at hF
  | some l1 =>
  simp only [lStays_ct, e0, e1, Option.some.injEq, Prod.mk.injEq] at hF
  obtain ⟨rfl, rfl, rfl⟩ := hF
  obtain ⟨v0, vals, rfl, k0, ha⟩ := F2.inv ha
  obtain ⟨v1, vals, rfl, k1, ha⟩ := F2.inv ha
  obtain rfl := F2.inv0 ha
  have hI : ∀ w', Kp (noB (fun _ => undef)) w w' → GK w' := fun _ hk => GK.keep hk.below hG
  have h : lStays n l0 l1 = some r := hg
  obtain ⟨p0, s0, o0⟩ := aB_ok hp e0 (k0) 5
  obtain ⟨p1, s1, o1⟩ := aB_ok hp e1 (k1) 5
  have hR0 := rel0 (gv := (fun _ => undef)) (n := 141) (w := w) (args := [.c (.wh 0), .c (.wh 1)]) (H := [⟨.ro false, 5, 1, l0.length, .b l0⟩, ⟨.ro false, 5, 1, l1.length, .b l1⟩]) (gl := []) (hpL (ps := [p0, p1]) (F2.cons o0 (F2.cons o1 F2.nil))) (allRo_ok rfl) (F2.cons s0 (F2.cons s1 F2.nil)) GlR.nil (by simp)
  clear ha hp hg k0 k1 e0 e1
  refine calls_W Tryd.func8 rfl rfl hR0 (Q := fun e s => (e = .ret ∨ e = .normal) ∧ s = lStays_R r) ?_ ?_
  · clear hR0
    unfold lStays at h
    have hT := tabO_mvstays
    refine W_seq ?_
    refine W_reg hT ftL_nil [] [] [0, 1] [0, 1] (s' := ⟨[(0, .c (.wh 0)), (1, .c (.wh 1))], [], [⟨(.ro false), 5, 1, l0.length, .b l0⟩, ⟨(.ro false), 5, 1, l1.length, .b l1⟩]⟩) (by kernel_rfl) allP_nil ?_
    refine W_seq ?_
    obtain ⟨r21, g1, h⟩ := bind_some' h
    refine W_reg hT (ftL_cons (k := 0) (f := 9) (F := (mup_ct n r21)) (mup_ok n r21) hI ftL_nil) [] [] [0, 1, 5] [0, 1] (s' := ⟨[(0, .c (.wh 0)), (1, .c (.wh 1)), (5, .c (.s (.b r21)))], [], [⟨(.ro false), 5, 1, l0.length, .b l0⟩, ⟨(.ro false), 5, 1, l1.length, .b l1⟩]⟩) (by kernel_rfl) (allP_cons.2 ⟨g1, allP_nil⟩) ?_
    refine W_seq ?_
    obtain ⟨r23, g2, h⟩ := bind_some' h
    refine W_reg hT (ftL_cons (k := 1) (f := 10) (F := (mcut_ct n r23)) (mcut_ok n r23) (fun _ _ => True.intro) ftL_nil) [] [] [0, 1, 5] [0, 1] (s' := ⟨[(0, .c (.sl 0 0 r23.2)), (1, .c (.wh 1)), (5, .c (.s (.b r21)))], [], [⟨(.ro false), 5, 1, l0.length, .b l0⟩, ⟨(.ro false), 5, 1, l1.length, .b l1⟩]⟩) (by kernel_rfl) (allP_cons.2 ⟨g2, allP_nil⟩) ?_
    refine W_seq ?_
    obtain ⟨r25, g3, h⟩ := bind_some' h
    refine W_reg hT (ftL_cons (k := 1) (f := 10) (F := (mcut_ct n r25)) (mcut_ok n r25) (fun _ _ => True.intro) ftL_nil) [] [] [0, 1, 5] [0, 1] (s' := ⟨[(0, .c (.sl 0 0 r23.2)), (1, .c (.sl 1 0 r25.2)), (5, .c (.s (.b r21)))], [], [⟨(.ro false), 5, 1, l0.length, .b l0⟩, ⟨(.ro false), 5, 1, l1.length, .b l1⟩]⟩) (by kernel_rfl) (allP_cons.2 ⟨g3, allP_nil⟩) ?_
    refine W_seq ?_
    obtain ⟨g4, h⟩ := gd_some h
    refine W_reg hT ftL_nil [] [] [0, 1, 5, 6] [0, 1, 3] (s' := ⟨[(0, .c (.sl 0 0 r23.2)), (1, .c (.sl 1 0 r25.2)), (5, .c (.s (.b r21))), (6, .c (.wh 2))], [], [⟨(.ro false), 5, 1, l0.length, .b l0⟩, ⟨(.ro false), 5, 1, l1.length, .b l1⟩, ⟨.row, 5, 1, ([] ++ ((l0.drop 0).take r23.2)).length, .b ([] ++ ((l0.drop 0).take r23.2))⟩]⟩) (by kernel_rfl) (allP_cons.2 ⟨g4, allP_nil⟩) ?_
    refine W_seq ?_
    obtain ⟨g5, h⟩ := gd_some h
    refine W_reg hT ftL_nil [] [] [0, 1, 5, 6, 7] [0, 1, 2, 4] (s' := ⟨[(0, .c (.sl 0 0 r23.2)), (1, .c (.sl 1 0 r25.2)), (5, .c (.s (.b r21))), (6, .c (.wh 2)), (7, .c (.wh 3))], [], [⟨(.ro false), 5, 1, l0.length, .b l0⟩, ⟨(.ro false), 5, 1, l1.length, .b l1⟩, ⟨.row, 5, 1, ([] ++ ((l0.drop 0).take r23.2)).length, .b ([] ++ ((l0.drop 0).take r23.2))⟩, ⟨.row, 5, 1, ([] ++ ((l1.drop 0).take r25.2)).length, .b ([] ++ ((l1.drop 0).take r25.2))⟩]⟩) (by kernel_rfl) (allP_cons.2 ⟨g5, allP_nil⟩) ?_
    refine W_seq ?_
    obtain ⟨r34, g6, h⟩ := bind_some' h
    refine W_reg hT (ftL_cons (k := 2) (f := 11) (F := (mMark_ct n r34)) (mMark_ok n r34) hI ftL_nil) [] [] [0, 1, 5, 6, 7, 8] [0, 1, 2, 3, 4] (s' := ⟨[(0, .c (.sl 0 0 r23.2)), (1, .c (.sl 1 0 r25.2)), (5, .c (.s (.b r21))), (6, .c (.wh 2)), (7, .c (.wh 3)), (8, .c (.wh 4))], [], [⟨(.ro false), 5, 1, l0.length, .b l0⟩, ⟨(.ro false), 5, 1, l1.length, .b l1⟩, ⟨.row, 5, 1, ([] ++ ((l0.drop 0).take r23.2)).length, .b ([] ++ ((l0.drop 0).take r23.2))⟩, ⟨.row, 5, 1, ([] ++ ((l1.drop 0).take r25.2)).length, .b ([] ++ ((l1.drop 0).take r25.2))⟩, ⟨.row, 5, 1, r34.length, .b r34⟩]⟩) (by kernel_rfl) (allP_cons.2 ⟨g6, allP_nil⟩) ?_
    refine W_seq ?_
    obtain ⟨r38, g7, h⟩ := bind_some' h
    refine W_reg hT (ftL_cons (k := 2) (f := 14) (F := (mDerive_ct n r38)) (mDerive_ok n r38) hI ftL_nil) [] [] [0, 1, 5, 6, 7, 8, 9, 10] [0, 1, 2, 3, 4, 5] (s' := ⟨[(0, .c (.sl 0 0 r23.2)), (1, .c (.sl 1 0 r25.2)), (5, .c (.s (.b r21))), (6, .c (.wh 2)), (7, .c (.wh 3)), (8, .c (.wh 4)), (9, .c (.sl 5 0 r38.2.1)), (10, .c (.s (.er 38 .i64 r38.2.2)))], [], [⟨(.ro false), 5, 1, l0.length, .b l0⟩, ⟨(.ro false), 5, 1, l1.length, .b l1⟩, ⟨.row, 5, 1, ([] ++ ((l0.drop 0).take r23.2)).length, .b ([] ++ ((l0.drop 0).take r23.2))⟩, ⟨.row, 5, 1, ([] ++ ((l1.drop 0).take r25.2)).length, .b ([] ++ ((l1.drop 0).take r25.2))⟩, ⟨.row, 5, 1, r34.length, .b r34⟩, ⟨.row, 5, 1, r38.1.length, .b r38.1⟩]⟩) (by kernel_rfl) (allP_cons.2 ⟨g7, allP_nil⟩) ?_
    refine W_seq ?_
    obtain ⟨r44, g8, h⟩ := bind_some' h
    refine W_reg hT (ftL_cons (k := 2) (f := 16) (F := (mBased_ct n r44)) (mBased_ok n r44) hI ftL_nil) [] [] [0, 1, 5, 6, 7, 8, 9, 10, 11, 12] [0, 1, 2, 3, 4, 5, 6] (s' := ⟨[(0, .c (.sl 0 0 r23.2)), (1, .c (.sl 1 0 r25.2)), (5, .c (.s (.b r21))), (6, .c (.wh 2)), (7, .c (.wh 3)), (8, .c (.wh 4)), (9, .c (.sl 5 0 r38.2.1)), (10, .c (.s (.er 38 .i64 r38.2.2))), (11, .c (.wh 6)), (12, .c (.s (.er 38 .i64 r44.2)))], [], [⟨(.ro false), 5, 1, l0.length, .b l0⟩, ⟨(.ro false), 5, 1, l1.length, .b l1⟩, ⟨.row, 5, 1, ([] ++ ((l0.drop 0).take r23.2)).length, .b ([] ++ ((l0.drop 0).take r23.2))⟩, ⟨.row, 5, 1, ([] ++ ((l1.drop 0).take r25.2)).length, .b ([] ++ ((l1.drop 0).take r25.2))⟩, ⟨.row, 5, 1, r34.length, .b r34⟩, ⟨.row, 5, 1, r38.1.length, .b r38.1⟩, ⟨.row, 5, 1, r44.1.length, .b r44.1⟩]⟩) (by kernel_rfl) (allP_cons.2 ⟨g8, allP_nil⟩) ?_
    refine W_seq ?_
    rcases Bool.eq_false_or_eq_true (([] ++ ((l0.drop 0).take r23.2)) == ((l0.drop 0).take r23.2)) with g9 | g9
    · replace h := bif_t h g9
      refine W_reg hT ftL_nil [(5, true)] [] [0, 1, 5, 8, 9, 10, 11, 12, 13] [0, 1, 4, 5, 6] (s' := ⟨[(0, .c (.sl 0 0 r23.2)), (1, .c (.sl 1 0 r25.2)), (5, .c (.s (.b r21))), (8, .c (.wh 2)), (9, .c (.sl 3 0 r38.2.1)), (10, .c (.s (.er 38 .i64 r38.2.2))), (11, .c (.wh 4)), (12, .c (.s (.er 38 .i64 r44.2))), (13, .c (.s (.b (([] ++ ((l1.drop 0).take r25.2)) == ((l1.drop 0).take r25.2)))))], [], [⟨(.ro false), 5, 1, l0.length, .b l0⟩, ⟨(.ro false), 5, 1, l1.length, .b l1⟩, ⟨.row, 5, 1, r34.length, .b r34⟩, ⟨.row, 5, 1, r38.1.length, .b r38.1⟩, ⟨.row, 5, 1, r44.1.length, .b r44.1⟩]⟩) (by kernel_rfl) (allP_cons.2 ⟨g9, allP_nil⟩) ?_
      refine W_seq ?_
      obtain ⟨g10, h⟩ := gd_some h
      obtain ⟨g11, h⟩ := gd_some h
      refine W_reg hT ftL_nil [] [] [0, 1, 5, 8, 9, 10, 12, 13, 14] [0, 1, 2, 3] (s' := ⟨[(0, .c (.sl 0 0 r23.2)), (1, .c (.sl 1 0 r25.2)), (5, .c (.s (.b r21))), (8, .c (.wh 2)), (9, .c (.sl 3 0 r38.2.1)), (10, .c (.s (.er 38 .i64 r38.2.2))), (12, .c (.s (.er 38 .i64 r44.2))), (13, .c (.s (.b (([] ++ ((l1.drop 0).take r25.2)) == ((l1.drop 0).take r25.2))))), (14, .c (.s (.str ((r34 ++ ((r38.1.drop 0).take r38.2.1)) ++ r44.1))))], [], [⟨(.ro false), 5, 1, l0.length, .b l0⟩, ⟨(.ro false), 5, 1, l1.length, .b l1⟩, ⟨.row, 5, 1, r34.length, .b r34⟩, ⟨.row, 5, 1, r38.1.length, .b r38.1⟩]⟩) (by kernel_rfl) (allP_cons.2 ⟨g10, (allP_cons.2 ⟨g11, allP_nil⟩)⟩) ?_
      refine W_seq ?_
      refine W_seq ?_
      refine W_reg hT ftL_nil [] [] [0, 1, 5, 8, 9, 10, 12, 13, 14, 15] [0, 1, 2, 3] (s' := ⟨[(0, .c (.sl 0 0 r23.2)), (1, .c (.sl 1 0 r25.2)), (5, .c (.s (.b r21))), (8, .c (.wh 2)), (9, .c (.sl 3 0 r38.2.1)), (10, .c (.s (.er 38 .i64 r38.2.2))), (12, .c (.s (.er 38 .i64 r44.2))), (13, .c (.s (.b (([] ++ ((l1.drop 0).take r25.2)) == ((l1.drop 0).take r25.2))))), (14, .c (.s (.str ((r34 ++ ((r38.1.drop 0).take r38.2.1)) ++ r44.1)))), (15, .c (.s (.k .i64 0)))], [], [⟨(.ro false), 5, 1, l0.length, .b l0⟩, ⟨(.ro false), 5, 1, l1.length, .b l1⟩, ⟨.row, 5, 1, r34.length, .b r34⟩, ⟨.row, 5, 1, r38.1.length, .b r38.1⟩]⟩) (by kernel_rfl) allP_nil ?_
      refine W_block ?_
      refine W_co [.vw 0 false, .vw 1 false] [0, 1, 5, 8, 9, 10, 12, 13, 14, 15] [4, 5, 2, 3] (s' := (lStays_l1_E l0 l1 r21 r23 r25 r34 r38 r44 r34 0)) (by kernel_rfl) (W_lp ((lStays_l1_P n l0 l1 r21 r23 r25 r34 r38 r44 r)) n (lStays_l1_M h) ?_)
      rintro fu_l1 _ ⟨l8_4, i15_4, rfl, h⟩
      cases fu_l1 with
      | zero => cases h
      | succ fu_l1 =>
        refine ⟨fu_l1, rfl, ?_⟩
        rw [lStays_l1] at h
        refine W_seq ?_
        refine W_seq ?_
        refine W_reg hT ftL_nil [] [] [0, 1, 5, 8, 9, 10, 12, 13, 14, 15, 70] [0, 1, 2, 3] (s' := ⟨[(0, .c (.wh 0)), (1, .c (.wh 1)), (5, .c (.s (.b r21))), (8, .c (.wh 2)), (9, .c (.sl 3 0 r38.2.1)), (10, .c (.s (.er 38 .i64 r38.2.2))), (12, .c (.s (.er 38 .i64 r44.2))), (13, .c (.s (.b (([] ++ ((l1.drop 0).take r25.2)) == ((l1.drop 0).take r25.2))))), (14, .c (.s (.str ((r34 ++ ((r38.1.drop 0).take r38.2.1)) ++ r44.1)))), (15, .c (.s (.k .i64 i15_4))), (70, .c (.s (.b (decide (i15_4 < ((r34.length : Nat) : Int))))))], [], [⟨(.ro false), 5, 1, r23.2, .b ((l0.drop 0).take r23.2)⟩, ⟨(.ro false), 5, 1, r25.2, .b ((l1.drop 0).take r25.2)⟩, ⟨.row, 5, 1, r34.length, .b l8_4⟩, ⟨.row, 5, 1, r38.1.length, .b r38.1⟩]⟩) (by kernel_rfl) allP_nil ?_
        refine W_cond (b := (decide (i15_4 < ((r34.length : Nat) : Int)))) (by kernel_rfl) (fun g34 => ?_) (fun g34 => ?_)
        · replace h := bif_t h g34
          refine W_co [] [0, 1, 5, 8, 9, 10, 12, 13, 14, 15] [0, 1, 2, 3] (s' := ⟨[(0, .c (.wh 0)), (1, .c (.wh 1)), (5, .c (.s (.b r21))), (8, .c (.wh 2)), (9, .c (.sl 3 0 r38.2.1)), (10, .c (.s (.er 38 .i64 r38.2.2))), (12, .c (.s (.er 38 .i64 r44.2))), (13, .c (.s (.b (([] ++ ((l1.drop 0).take r25.2)) == ((l1.drop 0).take r25.2))))), (14, .c (.s (.str ((r34 ++ ((r38.1.drop 0).take r38.2.1)) ++ r44.1)))), (15, .c (.s (.k .i64 i15_4)))], [], [⟨(.ro false), 5, 1, r23.2, .b ((l0.drop 0).take r23.2)⟩, ⟨(.ro false), 5, 1, r25.2, .b ((l1.drop 0).take r25.2)⟩, ⟨.row, 5, 1, r34.length, .b l8_4⟩, ⟨.row, 5, 1, r38.1.length, .b r38.1⟩]⟩) (by kernel_rfl) (W_skip ?_)
          refine W_seq ?_
          refine W_block ?_
          obtain ⟨g12, h⟩ := gd_some h
          obtain ⟨g13, h⟩ := gd_some h
          obtain ⟨g14, h⟩ := gd_some h
          obtain ⟨g15, h⟩ := gd_some h
          refine W_reg hT ftL_nil [] [] [0, 1, 5, 8, 9, 10, 12, 13, 14, 15] [0, 1, 2, 3] (s' := ⟨[(0, .c (.wh 0)), (1, .c (.wh 1)), (5, .c (.s (.b r21))), (8, .c (.wh 2)), (9, .c (.sl 3 0 r38.2.1)), (10, .c (.s (.er 38 .i64 r38.2.2))), (12, .c (.s (.er 38 .i64 r44.2))), (13, .c (.s (.b (([] ++ ((l1.drop 0).take r25.2)) == ((l1.drop 0).take r25.2))))), (14, .c (.s (.str ((r34 ++ ((r38.1.drop 0).take r38.2.1)) ++ r44.1)))), (15, .c (.s (.k .i64 i15_4)))], [], [⟨(.ro false), 5, 1, r23.2, .b ((l0.drop 0).take r23.2)⟩, ⟨(.ro false), 5, 1, r25.2, .b ((l1.drop 0).take r25.2)⟩, ⟨.row, 5, 1, r34.length, .b (l8_4.set i15_4.toNat ((l8_4.getD i15_4.toNat 0) + (1 : UInt8)))⟩, ⟨.row, 5, 1, r38.1.length, .b r38.1⟩]⟩) (by kernel_rfl) (allP_cons.2 ⟨g12, (allP_cons.2 ⟨g13, (allP_cons.2 ⟨g14, (allP_cons.2 ⟨g15, allP_nil⟩)⟩)⟩)⟩) ?_
          obtain ⟨g16, h⟩ := gd_some h
          refine W_reg hT ftL_nil [] [] [0, 1, 5, 8, 9, 10, 12, 13, 14, 15] [0, 1, 2, 3] (s' := (lStays_l1_E l0 l1 r21 r23 r25 r34 r38 r44 (l8_4.set i15_4.toNat ((l8_4.getD i15_4.toNat 0) + (1 : UInt8))) (i15_4 + 1))) (by kernel_rfl) (allP_cons.2 ⟨g16, allP_nil⟩) ?_
          exact lStays_l1_M h
        · replace h := bif_f h g34
          refine W_co [] [0, 1, 5, 9, 10, 12, 13, 14] [0, 1, 3] (s' := ⟨[(0, .c (.wh 0)), (1, .c (.wh 1)), (5, .c (.s (.b r21))), (9, .c (.sl 2 0 r38.2.1)), (10, .c (.s (.er 38 .i64 r38.2.2))), (12, .c (.s (.er 38 .i64 r44.2))), (13, .c (.s (.b (([] ++ ((l1.drop 0).take r25.2)) == ((l1.drop 0).take r25.2))))), (14, .c (.s (.str ((r34 ++ ((r38.1.drop 0).take r38.2.1)) ++ r44.1))))], [], [⟨(.ro false), 5, 1, r23.2, .b ((l0.drop 0).take r23.2)⟩, ⟨(.ro false), 5, 1, r25.2, .b ((l1.drop 0).take r25.2)⟩, ⟨.row, 5, 1, r38.1.length, .b r38.1⟩]⟩) (by kernel_rfl) (W_exit ?_)
          refine W_seq ?_
          refine W_seq ?_
          refine W_reg hT ftL_nil [] [] [0, 1, 5, 9, 10, 12, 13, 14, 16] [0, 1, 2] (s' := ⟨[(0, .c (.wh 0)), (1, .c (.wh 1)), (5, .c (.s (.b r21))), (9, .c (.sl 2 0 r38.2.1)), (10, .c (.s (.er 38 .i64 r38.2.2))), (12, .c (.s (.er 38 .i64 r44.2))), (13, .c (.s (.b (([] ++ ((l1.drop 0).take r25.2)) == ((l1.drop 0).take r25.2))))), (14, .c (.s (.str ((r34 ++ ((r38.1.drop 0).take r38.2.1)) ++ r44.1)))), (16, .c (.s (.k .i64 0)))], [], [⟨(.ro false), 5, 1, r23.2, .b ((l0.drop 0).take r23.2)⟩, ⟨(.ro false), 5, 1, r25.2, .b ((l1.drop 0).take r25.2)⟩, ⟨.row, 5, 1, r38.1.length, .b r38.1⟩]⟩) (by kernel_rfl) allP_nil ?_
          refine W_block ?_
          refine W_co [] [0, 1, 5, 9, 10, 12, 13, 14, 16] [0, 1, 2] (s' := (lStays_l2_E l0 l1 r21 r23 r25 r34 r38 r44 r38.1 0)) (by kernel_rfl) (W_lp ((lStays_l2_P n l0 l1 r21 r23 r25 r34 r38 r44 r)) n (lStays_l2_M h) ?_)
          rintro fu_l2 _ ⟨l9_4, i16_4, rfl, h⟩
          cases fu_l2 with
          | zero => cases h
          | succ fu_l2 =>
            refine ⟨fu_l2, rfl, ?_⟩
            rw [lStays_l2] at h
            refine W_seq ?_
            refine W_seq ?_
            refine W_reg hT ftL_nil [] [] [0, 1, 5, 9, 10, 12, 13, 14, 16, 84] [0, 1, 2] (s' := ⟨[(0, .c (.wh 0)), (1, .c (.wh 1)), (5, .c (.s (.b r21))), (9, .c (.sl 2 0 r38.2.1)), (10, .c (.s (.er 38 .i64 r38.2.2))), (12, .c (.s (.er 38 .i64 r44.2))), (13, .c (.s (.b (([] ++ ((l1.drop 0).take r25.2)) == ((l1.drop 0).take r25.2))))), (14, .c (.s (.str ((r34 ++ ((r38.1.drop 0).take r38.2.1)) ++ r44.1)))), (16, .c (.s (.k .i64 i16_4))), (84, .c (.s (.b (decide (i16_4 < ((r38.2.1 : Nat) : Int))))))], [], [⟨(.ro false), 5, 1, r23.2, .b ((l0.drop 0).take r23.2)⟩, ⟨(.ro false), 5, 1, r25.2, .b ((l1.drop 0).take r25.2)⟩, ⟨.row, 5, 1, r38.1.length, .b l9_4⟩]⟩) (by kernel_rfl) allP_nil ?_
            refine W_cond (b := (decide (i16_4 < ((r38.2.1 : Nat) : Int)))) (by kernel_rfl) (fun g33 => ?_) (fun g33 => ?_)
            · replace h := bif_t h g33
              refine W_co [] [0, 1, 5, 9, 10, 12, 13, 14, 16] [0, 1, 2] (s' := ⟨[(0, .c (.wh 0)), (1, .c (.wh 1)), (5, .c (.s (.b r21))), (9, .c (.sl 2 0 r38.2.1)), (10, .c (.s (.er 38 .i64 r38.2.2))), (12, .c (.s (.er 38 .i64 r44.2))), (13, .c (.s (.b (([] ++ ((l1.drop 0).take r25.2)) == ((l1.drop 0).take r25.2))))), (14, .c (.s (.str ((r34 ++ ((r38.1.drop 0).take r38.2.1)) ++ r44.1)))), (16, .c (.s (.k .i64 i16_4)))], [], [⟨(.ro false), 5, 1, r23.2, .b ((l0.drop 0).take r23.2)⟩, ⟨(.ro false), 5, 1, r25.2, .b ((l1.drop 0).take r25.2)⟩, ⟨.row, 5, 1, r38.1.length, .b l9_4⟩]⟩) (by kernel_rfl) (W_skip ?_)
              refine W_seq ?_
              refine W_block ?_
              obtain ⟨g17, h⟩ := gd_some h
              obtain ⟨g18, h⟩ := gd_some h
              obtain ⟨g19, h⟩ := gd_some h
              obtain ⟨g20, h⟩ := gd_some h
              refine W_reg hT ftL_nil [] [] [0, 1, 5, 9, 10, 12, 13, 14, 16] [0, 1, 2] (s' := ⟨[(0, .c (.wh 0)), (1, .c (.wh 1)), (5, .c (.s (.b r21))), (9, .c (.sl 2 0 r38.2.1)), (10, .c (.s (.er 38 .i64 r38.2.2))), (12, .c (.s (.er 38 .i64 r44.2))), (13, .c (.s (.b (([] ++ ((l1.drop 0).take r25.2)) == ((l1.drop 0).take r25.2))))), (14, .c (.s (.str ((r34 ++ ((r38.1.drop 0).take r38.2.1)) ++ r44.1)))), (16, .c (.s (.k .i64 i16_4)))], [], [⟨(.ro false), 5, 1, r23.2, .b ((l0.drop 0).take r23.2)⟩, ⟨(.ro false), 5, 1, r25.2, .b ((l1.drop 0).take r25.2)⟩, ⟨.row, 5, 1, r38.1.length, .b (l9_4.set i16_4.toNat ((l9_4.getD i16_4.toNat 0) + (1 : UInt8)))⟩]⟩) (by kernel_rfl) (allP_cons.2 ⟨g17, (allP_cons.2 ⟨g18, (allP_cons.2 ⟨g19, (allP_cons.2 ⟨g20, allP_nil⟩)⟩)⟩)⟩) ?_
              obtain ⟨g21, h⟩ := gd_some h
              refine W_reg hT ftL_nil [] [] [0, 1, 5, 9, 10, 12, 13, 14, 16] [0, 1, 2] (s' := (lStays_l2_E l0 l1 r21 r23 r25 r34 r38 r44 (l9_4.set i16_4.toNat ((l9_4.getD i16_4.toNat 0) + (1 : UInt8))) (i16_4 + 1))) (by kernel_rfl) (allP_cons.2 ⟨g21, allP_nil⟩) ?_
              exact lStays_l2_M h
            · replace h := bif_f h g33
              refine W_co [] [0, 1, 5, 10, 12, 13, 14] [0, 1] (s' := ⟨[(0, .c (.wh 0)), (1, .c (.wh 1)), (5, .c (.s (.b r21))), (10, .c (.s (.er 38 .i64 r38.2.2))), (12, .c (.s (.er 38 .i64 r44.2))), (13, .c (.s (.b (([] ++ ((l1.drop 0).take r25.2)) == ((l1.drop 0).take r25.2))))), (14, .c (.s (.str ((r34 ++ ((r38.1.drop 0).take r38.2.1)) ++ r44.1))))], [], [⟨(.ro false), 5, 1, r23.2, .b ((l0.drop 0).take r23.2)⟩, ⟨(.ro false), 5, 1, r25.2, .b ((l1.drop 0).take r25.2)⟩]⟩) (by kernel_rfl) (W_exit ?_)
              refine W_seq ?_
              obtain ⟨r98, g22, h⟩ := bind_some' h
              refine W_reg hT (ftL_cons (k := 2) (f := 14) (F := (mDerive_ct n r98)) (mDerive_ok n r98) hI ftL_nil) [] [] [0, 1, 5, 10, 12, 13, 14, 17, 18] [0, 1, 2] (s' := ⟨[(0, .c (.wh 0)), (1, .c (.wh 1)), (5, .c (.s (.b r21))), (10, .c (.s (.er 38 .i64 r38.2.2))), (12, .c (.s (.er 38 .i64 r44.2))), (13, .c (.s (.b (([] ++ ((l1.drop 0).take r25.2)) == ((l1.drop 0).take r25.2))))), (14, .c (.s (.str ((r34 ++ ((r38.1.drop 0).take r38.2.1)) ++ r44.1)))), (17, .c (.sl 2 0 r98.2.1)), (18, .c (.s (.er 38 .i64 r98.2.2)))], [], [⟨(.ro false), 5, 1, r23.2, .b ((l0.drop 0).take r23.2)⟩, ⟨(.ro false), 5, 1, r25.2, .b ((l1.drop 0).take r25.2)⟩, ⟨.row, 5, 1, r98.1.length, .b r98.1⟩]⟩) (by kernel_rfl) (allP_cons.2 ⟨g22, allP_nil⟩) ?_
              refine W_seq ?_
              obtain ⟨r104, g23, h⟩ := bind_some' h
              refine W_reg hT (ftL_cons (k := 2) (f := 16) (F := (mBased_ct n r104)) (mBased_ok n r104) hI ftL_nil) [] [] [0, 1, 5, 10, 12, 13, 14, 17, 18, 19, 20] [0, 1, 2, 3] (s' := ⟨[(0, .c (.wh 0)), (1, .c (.wh 1)), (5, .c (.s (.b r21))), (10, .c (.s (.er 38 .i64 r38.2.2))), (12, .c (.s (.er 38 .i64 r44.2))), (13, .c (.s (.b (([] ++ ((l1.drop 0).take r25.2)) == ((l1.drop 0).take r25.2))))), (14, .c (.s (.str ((r34 ++ ((r38.1.drop 0).take r38.2.1)) ++ r44.1)))), (17, .c (.sl 2 0 r98.2.1)), (18, .c (.s (.er 38 .i64 r98.2.2))), (19, .c (.wh 3)), (20, .c (.s (.er 38 .i64 r104.2)))], [], [⟨(.ro false), 5, 1, r23.2, .b ((l0.drop 0).take r23.2)⟩, ⟨(.ro false), 5, 1, r25.2, .b ((l1.drop 0).take r25.2)⟩, ⟨.row, 5, 1, r98.1.length, .b r98.1⟩, ⟨.row, 5, 1, r104.1.length, .b r104.1⟩]⟩) (by kernel_rfl) (allP_cons.2 ⟨g23, allP_nil⟩) ?_
              refine W_seq ?_
              rcases Bool.eq_false_or_eq_true r21 with g24 | g24
              · replace h := bif_t h g24
                rcases Bool.eq_false_or_eq_true (([] ++ ((l1.drop 0).take r25.2)) == ((l1.drop 0).take r25.2)) with g25 | g25
                · replace h := bif_t h g25
                  rcases Bool.eq_false_or_eq_true ((r38.2.2).isNone) with g26 | g26
                  · replace h := bif_t h g26
                    rcases Bool.eq_false_or_eq_true ((r44.2).isNone) with g27 | g27
                    · replace h := bif_t h g27
                      rcases Bool.eq_false_or_eq_true ((r98.2.2).isNone) with g28 | g28
                      · replace h := bif_t h g28
                        rcases Bool.eq_false_or_eq_true ((r104.2).isNone) with g29 | g29
                        · replace h := bif_t h g29
                          obtain ⟨r130, g30, h⟩ := bind_some' h
                          obtain ⟨g31, h⟩ := gd_some h
                          obtain ⟨g32, h⟩ := gd_some h
                          refine W_regD hT (ftL_cons (k := 23) (f := 11) (F := (mMark_ct n r130)) (mMark_ok n r130) hI ftL_nil) (by kernel_rfl) 32 [(1, true), (4, true), (8, true), (12, true), (16, true), (20, true)] [(127, false), (137, false), (138, false)] [] [4] [] (s' := ⟨[(4, .c (.s (.b (((r130 ++ ((r98.1.drop 0).take r98.2.1)) ++ r104.1) == ((r34 ++ ((r38.1.drop 0).take r38.2.1)) ++ r44.1)))))], [], []⟩) (by kernel_rfl) (by kernel_rfl) (allP_cons.2 ⟨g24, (allP_cons.2 ⟨g25, (allP_cons.2 ⟨g26, (allP_cons.2 ⟨g27, (allP_cons.2 ⟨g28, (allP_cons.2 ⟨g29, (allP_cons.2 ⟨g30, (allP_cons.2 ⟨g31, (allP_cons.2 ⟨g32, allP_nil⟩)⟩)⟩)⟩)⟩)⟩)⟩)⟩)⟩) ?_
                          refine W_co [] [4] [] (s' := (lStays_R (((r130 ++ ((r98.1.drop 0).take r98.2.1)) ++ r104.1) == ((r34 ++ ((r38.1.drop 0).take r38.2.1)) ++ r44.1)))) (by kernel_rfl) (W_ret ?_)
                          exact ⟨.inl rfl, by cases h; rfl⟩
                        · replace h := bif_f h g29
                          refine W_regD hT ftL_nil (by kernel_rfl) 32 [(1, true), (4, true), (8, true), (12, true), (16, true), (20, false)] [(127, false), (137, false), (138, false)] [] [4] [] (s' := ⟨[(4, .c (.s (.b false)))], [], []⟩) (by kernel_rfl) (by kernel_rfl) (allP_cons.2 ⟨g24, (allP_cons.2 ⟨g25, (allP_cons.2 ⟨g26, (allP_cons.2 ⟨g27, (allP_cons.2 ⟨g28, (allP_cons.2 ⟨g29, allP_nil⟩)⟩)⟩)⟩)⟩)⟩) ?_
                          refine W_co [] [4] [] (s' := (lStays_R false)) (by kernel_rfl) (W_ret ?_)
                          exact ⟨.inl rfl, by cases h; rfl⟩
                      · replace h := bif_f h g28
                        refine W_regD hT ftL_nil (by kernel_rfl) 32 [(1, true), (4, true), (8, true), (12, true), (16, false)] [(127, false), (137, false), (138, false)] [] [4] [] (s' := ⟨[(4, .c (.s (.b false)))], [], []⟩) (by kernel_rfl) (by kernel_rfl) (allP_cons.2 ⟨g24, (allP_cons.2 ⟨g25, (allP_cons.2 ⟨g26, (allP_cons.2 ⟨g27, (allP_cons.2 ⟨g28, allP_nil⟩)⟩)⟩)⟩)⟩) ?_
                        refine W_co [] [4] [] (s' := (lStays_R false)) (by kernel_rfl) (W_ret ?_)
                        exact ⟨.inl rfl, by cases h; rfl⟩
                    · replace h := bif_f h g27
                      refine W_regD hT ftL_nil (by kernel_rfl) 32 [(1, true), (4, true), (8, true), (12, false)] [(127, false), (137, false), (138, false)] [] [4] [] (s' := ⟨[(4, .c (.s (.b false)))], [], []⟩) (by kernel_rfl) (by kernel_rfl) (allP_cons.2 ⟨g24, (allP_cons.2 ⟨g25, (allP_cons.2 ⟨g26, (allP_cons.2 ⟨g27, allP_nil⟩)⟩)⟩)⟩) ?_
                      refine W_co [] [4] [] (s' := (lStays_R false)) (by kernel_rfl) (W_ret ?_)
                      exact ⟨.inl rfl, by cases h; rfl⟩
                  · replace h := bif_f h g26
                    refine W_regD hT ftL_nil (by kernel_rfl) 32 [(1, true), (4, true), (8, false)] [(127, false), (137, false), (138, false)] [] [4] [] (s' := ⟨[(4, .c (.s (.b false)))], [], []⟩) (by kernel_rfl) (by kernel_rfl) (allP_cons.2 ⟨g24, (allP_cons.2 ⟨g25, (allP_cons.2 ⟨g26, allP_nil⟩)⟩)⟩) ?_
                    refine W_co [] [4] [] (s' := (lStays_R false)) (by kernel_rfl) (W_ret ?_)
                    exact ⟨.inl rfl, by cases h; rfl⟩
                · replace h := bif_f h g25
                  refine W_regD hT ftL_nil (by kernel_rfl) 32 [(1, true), (4, false)] [(127, false), (137, false), (138, false)] [] [4] [] (s' := ⟨[(4, .c (.s (.b false)))], [], []⟩) (by kernel_rfl) (by kernel_rfl) (allP_cons.2 ⟨g24, (allP_cons.2 ⟨g25, allP_nil⟩)⟩) ?_
                  refine W_co [] [4] [] (s' := (lStays_R false)) (by kernel_rfl) (W_ret ?_)
                  exact ⟨.inl rfl, by cases h; rfl⟩
              · replace h := bif_f h g24
                refine W_regD hT ftL_nil (by kernel_rfl) 32 [(1, false)] [(127, false), (137, false), (138, false)] [] [4] [] (s' := ⟨[(4, .c (.s (.b false)))], [], []⟩) (by kernel_rfl) (by kernel_rfl) (allP_cons.2 ⟨g24, allP_nil⟩) ?_
                refine W_co [] [4] [] (s' := (lStays_R false)) (by kernel_rfl) (W_ret ?_)
                exact ⟨.inl rfl, by cases h; rfl⟩
    · replace h := bif_f h g9
      refine W_reg hT ftL_nil [(5, false)] [] [0, 1, 5, 8, 9, 10, 11, 12, 13] [0, 1, 4, 5, 6] (s' := ⟨[(0, .c (.sl 0 0 r23.2)), (1, .c (.sl 1 0 r25.2)), (5, .c (.s (.b r21))), (8, .c (.wh 2)), (9, .c (.sl 3 0 r38.2.1)), (10, .c (.s (.er 38 .i64 r38.2.2))), (11, .c (.wh 4)), (12, .c (.s (.er 38 .i64 r44.2))), (13, .c (.s (.b false)))], [], [⟨(.ro false), 5, 1, l0.length, .b l0⟩, ⟨(.ro false), 5, 1, l1.length, .b l1⟩, ⟨.row, 5, 1, r34.length, .b r34⟩, ⟨.row, 5, 1, r38.1.length, .b r38.1⟩, ⟨.row, 5, 1, r44.1.length, .b r44.1⟩]⟩) (by kernel_rfl) (allP_cons.2 ⟨g9, allP_nil⟩) ?_
      refine W_seq ?_
      obtain ⟨g35, h⟩ := gd_some h
      obtain ⟨g36, h⟩ := gd_some h
      refine W_reg hT ftL_nil [] [] [0, 1, 5, 8, 9, 10, 12, 13, 14] [0, 1, 2, 3] (s' := ⟨[(0, .c (.sl 0 0 r23.2)), (1, .c (.sl 1 0 r25.2)), (5, .c (.s (.b r21))), (8, .c (.wh 2)), (9, .c (.sl 3 0 r38.2.1)), (10, .c (.s (.er 38 .i64 r38.2.2))), (12, .c (.s (.er 38 .i64 r44.2))), (13, .c (.s (.b false))), (14, .c (.s (.str ((r34 ++ ((r38.1.drop 0).take r38.2.1)) ++ r44.1))))], [], [⟨(.ro false), 5, 1, l0.length, .b l0⟩, ⟨(.ro false), 5, 1, l1.length, .b l1⟩, ⟨.row, 5, 1, r34.length, .b r34⟩, ⟨.row, 5, 1, r38.1.length, .b r38.1⟩]⟩) (by kernel_rfl) (allP_cons.2 ⟨g35, (allP_cons.2 ⟨g36, allP_nil⟩)⟩) ?_
      refine W_seq ?_
      refine W_seq ?_
      refine W_reg hT ftL_nil [] [] [0, 1, 5, 8, 9, 10, 12, 13, 14, 15] [0, 1, 2, 3] (s' := ⟨[(0, .c (.sl 0 0 r23.2)), (1, .c (.sl 1 0 r25.2)), (5, .c (.s (.b r21))), (8, .c (.wh 2)), (9, .c (.sl 3 0 r38.2.1)), (10, .c (.s (.er 38 .i64 r38.2.2))), (12, .c (.s (.er 38 .i64 r44.2))), (13, .c (.s (.b false))), (14, .c (.s (.str ((r34 ++ ((r38.1.drop 0).take r38.2.1)) ++ r44.1)))), (15, .c (.s (.k .i64 0)))], [], [⟨(.ro false), 5, 1, l0.length, .b l0⟩, ⟨(.ro false), 5, 1, l1.length, .b l1⟩, ⟨.row, 5, 1, r34.length, .b r34⟩, ⟨.row, 5, 1, r38.1.length, .b r38.1⟩]⟩) (by kernel_rfl) allP_nil ?_
      refine W_block ?_
      refine W_co [.vw 0 false, .vw 1 false] [0, 1, 5, 8, 9, 10, 12, 13, 14, 15] [4, 5, 2, 3] (s' := (lStays_l3_E l0 l1 r21 r23 r25 r34 r38 r44 r34 0)) (by kernel_rfl) (W_lp ((lStays_l3_P n l0 l1 r21 r23 r25 r34 r38 r44 r)) n (lStays_l3_M h) ?_)
      rintro fu_l3 _ ⟨l8_5, i15_5, rfl, h⟩
      cases fu_l3 with
      | zero => cases h
      | succ fu_l3 =>
        refine ⟨fu_l3, rfl, ?_⟩
        rw [lStays_l3] at h
        refine W_seq ?_
        refine W_seq ?_
        refine W_reg hT ftL_nil [] [] [0, 1, 5, 8, 9, 10, 12, 13, 14, 15, 70] [0, 1, 2, 3] (s' := ⟨[(0, .c (.wh 0)), (1, .c (.wh 1)), (5, .c (.s (.b r21))), (8, .c (.wh 2)), (9, .c (.sl 3 0 r38.2.1)), (10, .c (.s (.er 38 .i64 r38.2.2))), (12, .c (.s (.er 38 .i64 r44.2))), (13, .c (.s (.b false))), (14, .c (.s (.str ((r34 ++ ((r38.1.drop 0).take r38.2.1)) ++ r44.1)))), (15, .c (.s (.k .i64 i15_5))), (70, .c (.s (.b (decide (i15_5 < ((r34.length : Nat) : Int))))))], [], [⟨(.ro false), 5, 1, r23.2, .b ((l0.drop 0).take r23.2)⟩, ⟨(.ro false), 5, 1, r25.2, .b ((l1.drop 0).take r25.2)⟩, ⟨.row, 5, 1, r34.length, .b l8_5⟩, ⟨.row, 5, 1, r38.1.length, .b r38.1⟩]⟩) (by kernel_rfl) allP_nil ?_
        refine W_cond (b := (decide (i15_5 < ((r34.length : Nat) : Int)))) (by kernel_rfl) (fun g51 => ?_) (fun g51 => ?_)
        · replace h := bif_t h g51
          refine W_co [] [0, 1, 5, 8, 9, 10, 12, 13, 14, 15] [0, 1, 2, 3] (s' := ⟨[(0, .c (.wh 0)), (1, .c (.wh 1)), (5, .c (.s (.b r21))), (8, .c (.wh 2)), (9, .c (.sl 3 0 r38.2.1)), (10, .c (.s (.er 38 .i64 r38.2.2))), (12, .c (.s (.er 38 .i64 r44.2))), (13, .c (.s (.b false))), (14, .c (.s (.str ((r34 ++ ((r38.1.drop 0).take r38.2.1)) ++ r44.1)))), (15, .c (.s (.k .i64 i15_5)))], [], [⟨(.ro false), 5, 1, r23.2, .b ((l0.drop 0).take r23.2)⟩, ⟨(.ro false), 5, 1, r25.2, .b ((l1.drop 0).take r25.2)⟩, ⟨.row, 5, 1, r34.length, .b l8_5⟩, ⟨.row, 5, 1, r38.1.length, .b r38.1⟩]⟩) (by kernel_rfl) (W_skip ?_)
          refine W_seq ?_
          refine W_block ?_
          obtain ⟨g37, h⟩ := gd_some h
          obtain ⟨g38, h⟩ := gd_some h
          obtain ⟨g39, h⟩ := gd_some h
          obtain ⟨g40, h⟩ := gd_some h
          refine W_reg hT ftL_nil [] [] [0, 1, 5, 8, 9, 10, 12, 13, 14, 15] [0, 1, 2, 3] (s' := ⟨[(0, .c (.wh 0)), (1, .c (.wh 1)), (5, .c (.s (.b r21))), (8, .c (.wh 2)), (9, .c (.sl 3 0 r38.2.1)), (10, .c (.s (.er 38 .i64 r38.2.2))), (12, .c (.s (.er 38 .i64 r44.2))), (13, .c (.s (.b false))), (14, .c (.s (.str ((r34 ++ ((r38.1.drop 0).take r38.2.1)) ++ r44.1)))), (15, .c (.s (.k .i64 i15_5)))], [], [⟨(.ro false), 5, 1, r23.2, .b ((l0.drop 0).take r23.2)⟩, ⟨(.ro false), 5, 1, r25.2, .b ((l1.drop 0).take r25.2)⟩, ⟨.row, 5, 1, r34.length, .b (l8_5.set i15_5.toNat ((l8_5.getD i15_5.toNat 0) + (1 : UInt8)))⟩, ⟨.row, 5, 1, r38.1.length, .b r38.1⟩]⟩) (by kernel_rfl) (allP_cons.2 ⟨g37, (allP_cons.2 ⟨g38, (allP_cons.2 ⟨g39, (allP_cons.2 ⟨g40, allP_nil⟩)⟩)⟩)⟩) ?_
          obtain ⟨g41, h⟩ := gd_some h
          refine W_reg hT ftL_nil [] [] [0, 1, 5, 8, 9, 10, 12, 13, 14, 15] [0, 1, 2, 3] (s' := (lStays_l3_E l0 l1 r21 r23 r25 r34 r38 r44 (l8_5.set i15_5.toNat ((l8_5.getD i15_5.toNat 0) + (1 : UInt8))) (i15_5 + 1))) (by kernel_rfl) (allP_cons.2 ⟨g41, allP_nil⟩) ?_
          exact lStays_l3_M h
        · replace h := bif_f h g51
          refine W_co [] [0, 1, 5, 9, 10, 12, 13, 14] [0, 1, 3] (s' := ⟨[(0, .c (.wh 0)), (1, .c (.wh 1)), (5, .c (.s (.b r21))), (9, .c (.sl 2 0 r38.2.1)), (10, .c (.s (.er 38 .i64 r38.2.2))), (12, .c (.s (.er 38 .i64 r44.2))), (13, .c (.s (.b false))), (14, .c (.s (.str ((r34 ++ ((r38.1.drop 0).take r38.2.1)) ++ r44.1))))], [], [⟨(.ro false), 5, 1, r23.2, .b ((l0.drop 0).take r23.2)⟩, ⟨(.ro false), 5, 1, r25.2, .b ((l1.drop 0).take r25.2)⟩, ⟨.row, 5, 1, r38.1.length, .b r38.1⟩]⟩) (by kernel_rfl) (W_exit ?_)
          refine W_seq ?_
          refine W_seq ?_
          refine W_reg hT ftL_nil [] [] [0, 1, 5, 9, 10, 12, 13, 14, 16] [0, 1, 2] (s' := ⟨[(0, .c (.wh 0)), (1, .c (.wh 1)), (5, .c (.s (.b r21))), (9, .c (.sl 2 0 r38.2.1)), (10, .c (.s (.er 38 .i64 r38.2.2))), (12, .c (.s (.er 38 .i64 r44.2))), (13, .c (.s (.b false))), (14, .c (.s (.str ((r34 ++ ((r38.1.drop 0).take r38.2.1)) ++ r44.1)))), (16, .c (.s (.k .i64 0)))], [], [⟨(.ro false), 5, 1, r23.2, .b ((l0.drop 0).take r23.2)⟩, ⟨(.ro false), 5, 1, r25.2, .b ((l1.drop 0).take r25.2)⟩, ⟨.row, 5, 1, r38.1.length, .b r38.1⟩]⟩) (by kernel_rfl) allP_nil ?_
          refine W_block ?_
          refine W_co [] [0, 1, 5, 9, 10, 12, 13, 14, 16] [0, 1, 2] (s' := (lStays_l4_E l0 l1 r21 r23 r25 r34 r38 r44 r38.1 0)) (by kernel_rfl) (W_lp ((lStays_l4_P n l0 l1 r21 r23 r25 r34 r38 r44 r)) n (lStays_l4_M h) ?_)
          rintro fu_l4 _ ⟨l9_5, i16_5, rfl, h⟩
          cases fu_l4 with
          | zero => cases h
          | succ fu_l4 =>
            refine ⟨fu_l4, rfl, ?_⟩
            rw [lStays_l4] at h
            refine W_seq ?_
            refine W_seq ?_
            refine W_reg hT ftL_nil [] [] [0, 1, 5, 9, 10, 12, 13, 14, 16, 84] [0, 1, 2] (s' := ⟨[(0, .c (.wh 0)), (1, .c (.wh 1)), (5, .c (.s (.b r21))), (9, .c (.sl 2 0 r38.2.1)), (10, .c (.s (.er 38 .i64 r38.2.2))), (12, .c (.s (.er 38 .i64 r44.2))), (13, .c (.s (.b false))), (14, .c (.s (.str ((r34 ++ ((r38.1.drop 0).take r38.2.1)) ++ r44.1)))), (16, .c (.s (.k .i64 i16_5))), (84, .c (.s (.b (decide (i16_5 < ((r38.2.1 : Nat) : Int))))))], [], [⟨(.ro false), 5, 1, r23.2, .b ((l0.drop 0).take r23.2)⟩, ⟨(.ro false), 5, 1, r25.2, .b ((l1.drop 0).take r25.2)⟩, ⟨.row, 5, 1, r38.1.length, .b l9_5⟩]⟩) (by kernel_rfl) allP_nil ?_
            refine W_cond (b := (decide (i16_5 < ((r38.2.1 : Nat) : Int)))) (by kernel_rfl) (fun g50 => ?_) (fun g50 => ?_)
            · replace h := bif_t h g50
              refine W_co [] [0, 1, 5, 9, 10, 12, 13, 14, 16] [0, 1, 2] (s' := ⟨[(0, .c (.wh 0)), (1, .c (.wh 1)), (5, .c (.s (.b r21))), (9, .c (.sl 2 0 r38.2.1)), (10, .c (.s (.er 38 .i64 r38.2.2))), (12, .c (.s (.er 38 .i64 r44.2))), (13, .c (.s (.b false))), (14, .c (.s (.str ((r34 ++ ((r38.1.drop 0).take r38.2.1)) ++ r44.1)))), (16, .c (.s (.k .i64 i16_5)))], [], [⟨(.ro false), 5, 1, r23.2, .b ((l0.drop 0).take r23.2)⟩, ⟨(.ro false), 5, 1, r25.2, .b ((l1.drop 0).take r25.2)⟩, ⟨.row, 5, 1, r38.1.length, .b l9_5⟩]⟩) (by kernel_rfl) (W_skip ?_)
              refine W_seq ?_
              refine W_block ?_
              obtain ⟨g42, h⟩ := gd_some h
              obtain ⟨g43, h⟩ := gd_some h
              obtain ⟨g44, h⟩ := gd_some h
              obtain ⟨g45, h⟩ := gd_some h
              refine W_reg hT ftL_nil [] [] [0, 1, 5, 9, 10, 12, 13, 14, 16] [0, 1, 2] (s' := ⟨[(0, .c (.wh 0)), (1, .c (.wh 1)), (5, .c (.s (.b r21))), (9, .c (.sl 2 0 r38.2.1)), (10, .c (.s (.er 38 .i64 r38.2.2))), (12, .c (.s (.er 38 .i64 r44.2))), (13, .c (.s (.b false))), (14, .c (.s (.str ((r34 ++ ((r38.1.drop 0).take r38.2.1)) ++ r44.1)))), (16, .c (.s (.k .i64 i16_5)))], [], [⟨(.ro false), 5, 1, r23.2, .b ((l0.drop 0).take r23.2)⟩, ⟨(.ro false), 5, 1, r25.2, .b ((l1.drop 0).take r25.2)⟩, ⟨.row, 5, 1, r38.1.length, .b (l9_5.set i16_5.toNat ((l9_5.getD i16_5.toNat 0) + (1 : UInt8)))⟩]⟩) (by kernel_rfl) (allP_cons.2 ⟨g42, (allP_cons.2 ⟨g43, (allP_cons.2 ⟨g44, (allP_cons.2 ⟨g45, allP_nil⟩)⟩)⟩)⟩) ?_
              obtain ⟨g46, h⟩ := gd_some h
              refine W_reg hT ftL_nil [] [] [0, 1, 5, 9, 10, 12, 13, 14, 16] [0, 1, 2] (s' := (lStays_l4_E l0 l1 r21 r23 r25 r34 r38 r44 (l9_5.set i16_5.toNat ((l9_5.getD i16_5.toNat 0) + (1 : UInt8))) (i16_5 + 1))) (by kernel_rfl) (allP_cons.2 ⟨g46, allP_nil⟩) ?_
              exact lStays_l4_M h
            · replace h := bif_f h g50
              refine W_co [] [0, 1, 5, 10, 12, 13, 14] [0, 1] (s' := ⟨[(0, .c (.wh 0)), (1, .c (.wh 1)), (5, .c (.s (.b r21))), (10, .c (.s (.er 38 .i64 r38.2.2))), (12, .c (.s (.er 38 .i64 r44.2))), (13, .c (.s (.b false))), (14, .c (.s (.str ((r34 ++ ((r38.1.drop 0).take r38.2.1)) ++ r44.1))))], [], [⟨(.ro false), 5, 1, r23.2, .b ((l0.drop 0).take r23.2)⟩, ⟨(.ro false), 5, 1, r25.2, .b ((l1.drop 0).take r25.2)⟩]⟩) (by kernel_rfl) (W_exit ?_)
              refine W_seq ?_
              obtain ⟨r98, g47, h⟩ := bind_some' h
              refine W_reg hT (ftL_cons (k := 2) (f := 14) (F := (mDerive_ct n r98)) (mDerive_ok n r98) hI ftL_nil) [] [] [0, 1, 5, 10, 12, 13, 14, 17, 18] [0, 1, 2] (s' := ⟨[(0, .c (.wh 0)), (1, .c (.wh 1)), (5, .c (.s (.b r21))), (10, .c (.s (.er 38 .i64 r38.2.2))), (12, .c (.s (.er 38 .i64 r44.2))), (13, .c (.s (.b false))), (14, .c (.s (.str ((r34 ++ ((r38.1.drop 0).take r38.2.1)) ++ r44.1)))), (17, .c (.sl 2 0 r98.2.1)), (18, .c (.s (.er 38 .i64 r98.2.2)))], [], [⟨(.ro false), 5, 1, r23.2, .b ((l0.drop 0).take r23.2)⟩, ⟨(.ro false), 5, 1, r25.2, .b ((l1.drop 0).take r25.2)⟩, ⟨.row, 5, 1, r98.1.length, .b r98.1⟩]⟩) (by kernel_rfl) (allP_cons.2 ⟨g47, allP_nil⟩) ?_
              refine W_seq ?_
              obtain ⟨r104, g48, h⟩ := bind_some' h
              refine W_reg hT (ftL_cons (k := 2) (f := 16) (F := (mBased_ct n r104)) (mBased_ok n r104) hI ftL_nil) [] [] [0, 1, 5, 10, 12, 13, 14, 17, 18, 19, 20] [0, 1, 2, 3] (s' := ⟨[(0, .c (.wh 0)), (1, .c (.wh 1)), (5, .c (.s (.b r21))), (10, .c (.s (.er 38 .i64 r38.2.2))), (12, .c (.s (.er 38 .i64 r44.2))), (13, .c (.s (.b false))), (14, .c (.s (.str ((r34 ++ ((r38.1.drop 0).take r38.2.1)) ++ r44.1)))), (17, .c (.sl 2 0 r98.2.1)), (18, .c (.s (.er 38 .i64 r98.2.2))), (19, .c (.wh 3)), (20, .c (.s (.er 38 .i64 r104.2)))], [], [⟨(.ro false), 5, 1, r23.2, .b ((l0.drop 0).take r23.2)⟩, ⟨(.ro false), 5, 1, r25.2, .b ((l1.drop 0).take r25.2)⟩, ⟨.row, 5, 1, r98.1.length, .b r98.1⟩, ⟨.row, 5, 1, r104.1.length, .b r104.1⟩]⟩) (by kernel_rfl) (allP_cons.2 ⟨g48, allP_nil⟩) ?_
              refine W_seq ?_
              rcases Bool.eq_false_or_eq_true r21 with g49 | g49
              · replace h := bif_t h g49
                refine W_regD hT ftL_nil (by kernel_rfl) 32 [(1, true)] [(127, false), (137, false), (138, false)] [] [4] [] (s' := ⟨[(4, .c (.s (.b false)))], [], []⟩) (by kernel_rfl) (by kernel_rfl) (allP_cons.2 ⟨g49, allP_nil⟩) ?_
                refine W_co [] [4] [] (s' := (lStays_R false)) (by kernel_rfl) (W_ret ?_)
                exact ⟨.inl rfl, by cases h; rfl⟩
              · replace h := bif_f h g49
                refine W_regD hT ftL_nil (by kernel_rfl) 32 [(1, false)] [(127, false), (137, false), (138, false)] [] [4] [] (s' := ⟨[(4, .c (.s (.b false)))], [], []⟩) (by kernel_rfl) (by kernel_rfl) (allP_cons.2 ⟨g49, allP_nil⟩) ?_
                refine W_co [] [4] [] (s' := (lStays_R false)) (by kernel_rfl) (W_ret ?_)
                exact ⟨.inl rfl, by cases h; rfl⟩
  · rintro e s' ⟨he, rfl⟩
    refine ⟨he, fun a' w' hr => ?_⟩
    exact retS_ok tabO_mvstays hr (rs := [.tmp 4]) rfl (objs := []) (by kernel_rfl)
end Go.Proofs.YtamddohbpdbdmaaDoor
end
section
set_option linter.unusedVariables false
set_option linter.unusedSimpArgs false
namespace Go.Sx
open Go Go.RowKit Go.Ch Go.Proofs.YtamddohbpdbdmaaDoor
theorem lStays_l2_is (a0 a1 : List UInt8) (m0 m1 : Nat) (l0 : ((a0.drop 0).take m0).length ≤ 300) (l1 : ((a1.drop 0).take m1).length ≤ 300) :
    ∀ (m i fu : Nat) (w : List UInt8), i + m = 40 → m < fu → lStays_l2 N64 a0 a1 true (a0, m0) (a1, m1) (hmac ((a0.drop 0).take m0) ((a1.drop 0).take m1)) (outS ((a0.drop 0).take m0) ((a1.drop 0).take m1) 2 2, 40, none) (baseN (Dg ((a0.drop 0).take m0 ++ (a1.drop 0).take m1)) 1, none) fu w (i : Int) = some true := by
  intro m
  have ho := outS_len ((a0.drop 0).take m0) ((a1.drop 0).take m1) 2 2
  have hh := hmac_len ((a0.drop 0).take m0) ((a1.drop 0).take m1)
  have hb := baseN_len (Dg_len ((a0.drop 0).take m0 ++ (a1.drop 0).take m1)) 1
  have d := mDerive_is (n := N64) (by decide) (a0 := (a0.drop 0).take m0) (a1 := (a1.drop 0).take m1) (by omega) (by omega) (r := 2) (len := 40) (by omega) (by omega) (by omega)
  have b := mBased_is (n := N64) (by decide) (a0 := (a0.drop 0).take m0) (a1 := (a1.drop 0).take m1) (by omega) (by omega) (r := 2) (by omega) (by omega)
  rw [show ((2 : Nat) : Int) = 2 from rfl, show ((40 : Nat) : Int) = 40 from rfl, show (40 + 31) / 32 = 2 from rfl] at d
  rw [show ((2 : Nat) : Int) = 2 from rfl, show 2 - 1 = 1 from rfl] at b
  induction m with
  | zero =>
    intro i fu w hi hf
    cases fu with
    | zero => omega
    | succ fu =>
      rw [lStays_l2, ite_f (by simp <;> omega)]
      dsimp only
      rw [d, Option.bind_some, b, Option.bind_some, cond_true, List.nil_append, ite_t (by simp), ite_t (by rfl), ite_t (by rfl), ite_t (by rfl), ite_t (by rfl), mMark_is (by decide) (by omega) (by omega), Option.bind_some]
      dsimp only
      rw [gd_pos (by rw [List.length_take, List.length_drop]; omega), gd_pos (by rw [List.length_append, List.length_take, List.length_drop]; omega)]
      simp
  | succ m ih =>
    intro i fu w hi hf
    cases fu with
    | zero => omega
    | succ fu =>
      rw [lStays_l2, ite_t (by simp <;> omega), gd_pos (by omega), gd_pos (by simp only []; omega), gd_pos (by omega), gd_pos (by simp only []; omega), gd_pos (okI64 (by omega) (by omega))]
      exact ih (i + 1) fu _ (by omega) (by omega)
theorem lStays_l1_is (a0 a1 : List UInt8) (m0 m1 : Nat) (l0 : ((a0.drop 0).take m0).length ≤ 300) (l1 : ((a1.drop 0).take m1).length ≤ 300) :
    ∀ (m i fu : Nat) (w : List UInt8), i + m = 32 → m < fu → lStays_l1 N64 a0 a1 true (a0, m0) (a1, m1) (hmac ((a0.drop 0).take m0) ((a1.drop 0).take m1)) (outS ((a0.drop 0).take m0) ((a1.drop 0).take m1) 2 2, 40, none) (baseN (Dg ((a0.drop 0).take m0 ++ (a1.drop 0).take m1)) 1, none) fu w (i : Int) = some true := by
  intro m
  have hh := hmac_len ((a0.drop 0).take m0) ((a1.drop 0).take m1)
  induction m with
  | zero =>
    intro i fu w hi hf
    cases fu with
    | zero => omega
    | succ fu =>
      rw [lStays_l1, ite_f (decide_eq_false (by rw [hh]; omega))]
      exact lStays_l2_is a0 a1 m0 m1 l0 l1 40 0 N64 _ (by omega) (by decide)
  | succ m ih =>
    intro i fu w hi hf
    cases fu with
    | zero => omega
    | succ fu =>
      rw [lStays_l1, ite_t (decide_eq_true (by rw [hh]; omega)), gd_pos (by omega), gd_pos (by rw [hh]; omega), gd_pos (by omega), gd_pos (by rw [hh]; omega), gd_pos (okI64 (by omega) (by omega))]
      exact ih (i + 1) fu _ (by omega) (by omega)
theorem lStays_is (a0 a1 : List UInt8) : lStays N64 a0 a1 = some true := by
  obtain ⟨m0, e0, l0, k0⟩ := mcut_is N64 a0 300
  obtain ⟨m1, e1, l1, k1⟩ := mcut_is N64 a1 300
  rw [show ((300 : Nat) : Int) = 300 from rfl] at e0 e1
  have ho := outS_len ((a0.drop 0).take m0) ((a1.drop 0).take m1) 2 2
  have hh := hmac_len ((a0.drop 0).take m0) ((a1.drop 0).take m1)
  have hb := baseN_len (Dg_len ((a0.drop 0).take m0 ++ (a1.drop 0).take m1)) 1
  have d := mDerive_is (n := N64) (by decide) (a0 := (a0.drop 0).take m0) (a1 := (a1.drop 0).take m1) (by omega) (by omega) (r := 2) (len := 40) (by omega) (by omega) (by omega)
  have b := mBased_is (n := N64) (by decide) (a0 := (a0.drop 0).take m0) (a1 := (a1.drop 0).take m1) (by omega) (by omega) (r := 2) (by omega) (by omega)
  rw [show ((2 : Nat) : Int) = 2 from rfl, show ((40 : Nat) : Int) = 40 from rfl, show (40 + 31) / 32 = 2 from rfl] at d
  rw [show ((2 : Nat) : Int) = 2 from rfl, show 2 - 1 = 1 from rfl] at b
  unfold lStays
  rw [mup_is, Option.bind_some, e0, Option.bind_some, e1, Option.bind_some]
  dsimp only
  rw [gd_pos (by unfold rmB; omega), gd_pos (by unfold rmB; omega), List.nil_append, List.nil_append, mMark_is (by decide) (by omega) (by omega), Option.bind_some, d, Option.bind_some, b, Option.bind_some, ite_t (by simp)]
  dsimp only
  rw [gd_pos (by rw [List.length_take, List.length_drop]; omega), gd_pos (by rw [List.length_append, List.length_take, List.length_drop]; omega)]
  exact lStays_l1_is a0 a1 m0 m1 l0 l1 32 0 N64 _ (by omega) (by decide)
end Go.Sx
namespace Go.Proofs.YtamddohbpdbdmaaDoor
open Go.RowKit Go.Ch Go.Sx
theorem macStays_c (w : World) (B0 : Nat) (v0 : Value) (l0 : List UInt8) (hv0 : Sl w B0 v0 (l0.map bU)) (B1 : Nat) (v1 : Value) (l1 : List UInt8) (hv1 : Sl w B1 v1 (l1.map bU)) (hG : GK w) :
    Calls Tryd.prog 8 #[v0, v1] w (Ret fun v' w' => Ext w w' ∧ v' = .bool true) := by
  obtain ⟨p0, a0, b0⟩ := in_b hv0 5
  obtain ⟨p1, a1, b1⟩ := in_b hv1 5
  exact law_of (lStays_ok N64 true) (args := [.c (.wh 0), .c (.wh 1)]) (H := [⟨.ro false, 5, 1, l0.length, .b l0⟩, ⟨.ro false, 5, 1, l1.length, .b l1⟩]) (ρ := plL [p0, p1]) (vals := [v0, v1]) rfl (allP_cons.2 ⟨lStays_is l0 l1, allP_nil⟩) hG (hpL (ps := [p0, p1]) (F2.cons b0 (F2.cons b1 F2.nil))) (F2.cons a0 (F2.cons a1 F2.nil))
end Go.Proofs.YtamddohbpdbdmaaDoor
end
