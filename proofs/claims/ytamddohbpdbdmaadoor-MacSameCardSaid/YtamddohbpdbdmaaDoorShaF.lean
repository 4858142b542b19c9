import Derived.Test.YtamddohbpdbdmaaDoorShaB
import Derived.Test.YtamddohbpdbdmaaDoorRo
set_option linter.unusedVariables false
set_option linter.unusedSimpArgs false
namespace Go.Proofs.YtamddohbpdbdmaaDoor
open Go.RowKit Go.Ch

theorem run_shri {P : Program} (t : TypeId) (ex ey : Operand) (k : IntKind) (m i : Nat) (hi : i < 64) (w : World) : binRun P .shr t ex ey (.int .i64 (m : Int)) (.int k (i : Int)) w = .ok (.int .i64 ((m / 2 ^ i : Nat) : Int)) w := by
  simp only [binRun, Sem.run_bind, guard_int, Result.andThen_ok]
  have h1 : min i 64 = i := by omega
  simp only [binOp, Op.shift, if_neg (show ¬ ((i : Int) < 0) by omega), Sem.run_pure, Int.toNat_natCast, show IntKind.i64.bits = 64 from rfl, h1]
  congr 2
  have e : ((2 : Int) ^ i) = ((2 ^ i : Nat) : Int) := by simp
  rw [e, Int.fdiv_eq_ediv_of_nonneg _ (Int.natCast_nonneg _)]
  rfl

/-- the tail, as it is built -/
def tl (j : Nat) : List UInt8 := [128] ++ List.replicate j 0
theorem length_tl (j : Nat) : (tl j).length = j + 1 := by simp [tl]
theorem tl_succ (j : Nat) : tl j ++ [0] = tl (j + 1) := by simp [tl, List.replicate_succ']
theorem length_lenB (n : Nat) : (lenB n).length = 8 := by simp [lenB]
theorem lenB_get (n k : Nat) (h : k < 8) : (lenB n)[k]? = some (UInt8.ofNat (8 * n / 2 ^ (56 - 8 * k))) := by
  unfold lenB
  rw [List.getElem?_map, List.getElem?_range h]; rfl
theorem tail_succ (z n k : Nat) (h : k < 8) : tl z ++ (lenB n).take k ++ [UInt8.ofNat (8 * n / 2 ^ (56 - 8 * k))] = tl z ++ (lenB n).take (k + 1) := by
  have hl : k < (lenB n).length := by rw [length_lenB]; exact h
  rw [List.append_assoc, List.take_succ_eq_append_getElem hl]
  have := lenB_get n k h
  rw [List.getElem?_eq_getElem hl] at this
  injection this with this
  rw [this]
theorem tail_done (n : Nat) : tl ((119 - n % 64) % 64) ++ (lenB n).take 8 = tailOf n := by
  rw [List.take_of_length_le (by rw [length_lenB]; omega)]; rfl

set_option maxRecDepth 100000 in
set_option maxHeartbeats 4000000 in
theorem tail_bad (w : World) (n : Int) (h : n < 0 ∨ 281474976710656 < n) :
    Calls Tryd.prog 27 #[.int .i64 n] w (Ret fun v' w' => Ext w w' ∧ v' = .tuple #[.slice none 0 0, .iface 38 (.int .i64 1)]) := by
  rcases h with h | h
  · go_enter Tryd.func27, Tryd.ntmps27
    go_wp2
    go_ret2
    exact ⟨_, rfl, Below.refl _ _, rfl⟩
  · have h' : ¬ n < 0 := by omega
    go_enter Tryd.func27, Tryd.ntmps27
    go_wp2
    go_ret2
    exact ⟨_, rfl, Below.refl _ _, rfl⟩

set_option maxRecDepth 100000 in
set_option maxHeartbeats 4000000 in
theorem tail_c (w : World) (n : Nat) (h : n ≤ 281474976710656) :
    Calls Tryd.prog 27 #[.int .i64 n] w (Ret fun v' w' => Ext w w' ∧ ∃ v1, v' = .tuple #[v1, .nilIface] ∧ Own w' w.heap.size 5 v1 ((tailOf n).map bU)) := by
  obtain ⟨i5, hi5, hz5, hs5, hb5⟩ := info_parts infoU8
  have hsz5 := info_size infoU8
  have h1 : ¬ (n : Int) < 0 := by omega
  have h2 : ¬ (n : Int) > 281474976710656 := by omega
  generalize hz : (119 - n % 64) % 64 = z
  go_enter Tryd.func27, Tryd.ntmps27
  go_wp2_with (first
    | ((with_reducible refine g_at (d := 13) ?_); refine wpl_buildSlice (vs := [bU 128]) Tryd.underlying22 hi5 hz5 hs5 rfl (xs := [(.const (.int .u8 128))]) rfl rfl rfl (by intro u hu; simp at hu; subst hu; rfl) (by omega) ?_; intro v13 w13 h13 hx13 ha13; try (conv in (Act.put _ _ _) => simp only [Act.put, List.setIfInBounds_toArray, List.set_cons_succ, List.set_cons_zero]))
    | ((with_reducible refine g_at (d := 16) ?_); refine wpl_len rfl Tryd.underlying22 (by first | assumption | exact Own.sl (by assumption) | exact Sl.back (by first | assumption | exact Ext.drew' (by assumption) | exact Ext.undrew (by assumption)) (by first | assumption | exact Own.sl (by assumption) | exact Sl.back (by first | assumption | exact Ext.drew' (by assumption) | exact Ext.undrew (by assumption)) (by first | assumption | exact Own.sl (by assumption) | exact Sl.back (by first | assumption | exact Ext.drew' (by assumption) | exact Ext.undrew (by assumption)) (by first | assumption | exact Own.sl (by assumption) | exact Sl.back (by first | assumption | exact Ext.drew' (by assumption) | exact Ext.undrew (by assumption)) (by first | assumption | exact Own.sl (by assumption) | exact Sl.back (by first | assumption | exact Ext.drew' (by assumption) | exact Ext.undrew (by assumption)) (by first | assumption | exact Own.sl (by assumption) | exact Sl.back (by first | assumption | exact Ext.drew' (by assumption) | exact Ext.undrew (by assumption)) (by first | assumption | exact Own.sl (by assumption) | exact Sl.back (by first | assumption | exact Ext.drew' (by assumption) | exact Ext.undrew (by assumption)) (by first | assumption | exact Own.sl (by assumption))))))))) (by first | rw [List.length_map] | rfl) ?_; try (conv in (Act.put _ _ _) => simp only [Act.put, List.setIfInBounds_toArray, List.set_cons_succ, List.set_cons_zero]))
    | ((with_reducible refine g_at (d := 22) ?_); refine wpl_buildSlice (vs := [bU 0]) Tryd.underlying22 hi5 hz5 hs5 rfl (xs := [(.const (.int .u8 0))]) rfl rfl rfl (by intro u hu; simp at hu; subst hu; rfl) (by omega) ?_; intro v22 w22 h22 hx22 ha22; try (conv in (Act.put _ _ _) => simp only [Act.put, List.setIfInBounds_toArray, List.set_cons_succ, List.set_cons_zero])))
  go_loopw [4] (fun o wr => ∃ j : Nat, j ≤ z ∧ Own wr w.heap.size 5 o ((tl j).map bU) ∧ Ext w wr) (fun o _ => 100 - slen o)
  case atStart => exact ⟨0, by omega, h13, hx13⟩
  case round =>
    obtain ⟨j, hj, ho, hx⟩ := hrel
    have hlen := length_tl j
    have hsl : slen u4 = j + 1 := by rw [ho.slen]; simp [hlen]
    by_cases hlt : j < z
    · have ht : ¬ ((n : Int) + (j + 1) + 8) % 64 = 0 := by omega
      go_wp2_with (first
        | ((with_reducible refine g_at (d := 16) ?_); refine wpl_len rfl Tryd.underlying22 ho.sl (by first | rw [List.length_map] | rfl) ?_; try (conv in (Act.put _ _ _) => simp only [Act.put, List.setIfInBounds_toArray, List.set_cons_succ, List.set_cons_zero]))
        | ((with_reducible refine g_at (d := 22) ?_); refine wpl_buildSlice (vs := [bU 0]) Tryd.underlying22 hi5 hz5 hs5 rfl (xs := [(.const (.int .u8 0))]) rfl rfl rfl (by intro u hu; simp at hu; subst hu; rfl) (by omega) ?_; intro v22 w22 h22 hx22 ha22; try (conv in (Act.put _ _ _) => simp only [Act.put, List.setIfInBounds_toArray, List.set_cons_succ, List.set_cons_zero]))
        | ((with_reducible refine g_at (d := 23) ?_); refine wpl_append (v := u4) rfl rfl Tryd.underlying22 hi5 hz5 hs5 hb5 rfl (ho.ext hx22) h22.sl (bU_one [0]) (by first | omega | (simp <;> omega)) (by omega) (Nat.le_trans hx.size hx22.size) ?_; intro v23 w23 h23 hg23 ha23 hx23; try (conv in (Act.put _ _ _) => simp only [Act.put, List.setIfInBounds_toArray, List.set_cons_succ, List.set_cons_zero]))
        | ((with_reducible refine g_at (d := 13) ?_); refine wpl_buildSlice (vs := [bU 128]) Tryd.underlying22 hi5 hz5 hs5 rfl (xs := [(.const (.int .u8 128))]) rfl rfl rfl (by intro u hu; simp at hu; subst hu; rfl) (by omega) ?_; intro v13 w13 h13 hx13 ha13; try (conv in (Act.put _ _ _) => simp only [Act.put, List.setIfInBounds_toArray, List.set_cons_succ, List.set_cons_zero])))
      go_roundw
      case rel =>
        refine ⟨j + 1, by omega, ?_, (hx.tr hx22).trans hx23⟩
        rw [← tl_succ, List.map_append]; exact h23
      case measure => rw [h23.slen, hsl]; simp [hlen]; omega
    · obtain rfl : j = z := by omega
      have ht : ((n : Int) + (j + 1) + 8) % 64 = 0 := by omega
      go_wp2_with (first
        | ((with_reducible refine g_at (d := 16) ?_); refine wpl_len rfl Tryd.underlying22 ho.sl (by first | rw [List.length_map] | rfl) ?_; try (conv in (Act.put _ _ _) => simp only [Act.put, List.setIfInBounds_toArray, List.set_cons_succ, List.set_cons_zero]))
        | ((with_reducible refine g_at (d := 13) ?_); refine wpl_buildSlice (vs := [bU 128]) Tryd.underlying22 hi5 hz5 hs5 rfl (xs := [(.const (.int .u8 128))]) rfl rfl rfl (by intro u hu; simp at hu; subst hu; rfl) (by omega) ?_; intro v13 w13 h13 hx13 ha13; try (conv in (Act.put _ _ _) => simp only [Act.put, List.setIfInBounds_toArray, List.set_cons_succ, List.set_cons_zero]))
        | ((with_reducible refine g_at (d := 22) ?_); refine wpl_buildSlice (vs := [bU 0]) Tryd.underlying22 hi5 hz5 hs5 rfl (xs := [(.const (.int .u8 0))]) rfl rfl rfl (by intro u hu; simp at hu; subst hu; rfl) (by omega) ?_; intro v22 w22 h22 hx22 ha22; try (conv in (Act.put _ _ _) => simp only [Act.put, List.setIfInBounds_toArray, List.set_cons_succ, List.set_cons_zero])))
      go_loopw [5, 4] (fun i o wr => ∃ k : Nat, k ≤ 8 ∧ i = .int .i64 (56 - 8 * (k : Int)) ∧ Own wr w.heap.size 5 o ((tl j ++ (lenB n).take k).map bU) ∧ Ext w wr) (fun i _ _ => (intOf i + 8).toNat)
      case atStart => exact ⟨0, by omega, rfl, by simpa using ho, hx⟩
      case round =>
        obtain ⟨k, hk, rfl, ho, hx⟩ := hrel
        have hlen2 : ((lenB n).take k).length = k := by rw [List.length_take, length_lenB]; omega
        by_cases hlt : k < 8
        · go_wp2_with (first
            | ((with_reducible refine g_at (d := 32) ?_); refine wpl_bin rfl rfl (by rw [show (8 * (n : Int)) = ((8 * n : Nat) : Int) by omega, show (56 - 8 * (k : Int)) = ((56 - 8 * k : Nat) : Int) by omega]; exact run_shri _ _ _ _ (8 * n) (56 - 8 * k) (by omega) _) ?_; try (conv in (Act.put _ _ _) => simp only [Act.put, List.setIfInBounds_toArray, List.set_cons_succ, List.set_cons_zero]))
            | ((with_reducible refine g_at (d := 33) ?_); refine wpl_conv rfl (by exact conv_nb Tryd.underlying3 Tryd.underlying5 _ _) ?_; try (conv in (Act.put _ _ _) => simp only [Act.put, List.setIfInBounds_toArray, List.set_cons_succ, List.set_cons_zero]))
            | ((with_reducible refine g_at (d := 34) ?_); refine wpl_buildSlice (vs := [bU (UInt8.ofNat (8 * n / 2 ^ (56 - 8 * k)))]) Tryd.underlying22 hi5 hz5 hs5 rfl (xs := [(.tmp 33)]) rfl rfl rfl (by intro u hu; simp at hu; subst hu; rfl) (by omega) ?_; intro v34 w34 h34 hx34 ha34; try (conv in (Act.put _ _ _) => simp only [Act.put, List.setIfInBounds_toArray, List.set_cons_succ, List.set_cons_zero]))
            | ((with_reducible refine g_at (d := 35) ?_); refine wpl_append (v := u4) rfl rfl Tryd.underlying22 hi5 hz5 hs5 hb5 rfl (ho.ext hx34) h34.sl (bU_one [UInt8.ofNat (8 * n / 2 ^ (56 - 8 * k))]) (by first | omega | (simp <;> omega)) (by omega) (Nat.le_trans hx.size hx34.size) ?_; intro v35 w35 h35 hg35 ha35 hx35; try (conv in (Act.put _ _ _) => simp only [Act.put, List.setIfInBounds_toArray, List.set_cons_succ, List.set_cons_zero]))
            | ((with_reducible refine g_at (d := 13) ?_); refine wpl_buildSlice (vs := [bU 128]) Tryd.underlying22 hi5 hz5 hs5 rfl (xs := [(.const (.int .u8 128))]) rfl rfl rfl (by intro u hu; simp at hu; subst hu; rfl) (by omega) ?_; intro v13 w13 h13 hx13 ha13; try (conv in (Act.put _ _ _) => simp only [Act.put, List.setIfInBounds_toArray, List.set_cons_succ, List.set_cons_zero]))
            | ((with_reducible refine g_at (d := 16) ?_); refine wpl_len rfl Tryd.underlying22 (by first | assumption | exact Own.sl (by assumption) | exact Sl.back (by first | assumption | exact Ext.drew' (by assumption) | exact Ext.undrew (by assumption)) (by first | assumption | exact Own.sl (by assumption) | exact Sl.back (by first | assumption | exact Ext.drew' (by assumption) | exact Ext.undrew (by assumption)) (by first | assumption | exact Own.sl (by assumption) | exact Sl.back (by first | assumption | exact Ext.drew' (by assumption) | exact Ext.undrew (by assumption)) (by first | assumption | exact Own.sl (by assumption) | exact Sl.back (by first | assumption | exact Ext.drew' (by assumption) | exact Ext.undrew (by assumption)) (by first | assumption | exact Own.sl (by assumption) | exact Sl.back (by first | assumption | exact Ext.drew' (by assumption) | exact Ext.undrew (by assumption)) (by first | assumption | exact Own.sl (by assumption) | exact Sl.back (by first | assumption | exact Ext.drew' (by assumption) | exact Ext.undrew (by assumption)) (by first | assumption | exact Own.sl (by assumption) | exact Sl.back (by first | assumption | exact Ext.drew' (by assumption) | exact Ext.undrew (by assumption)) (by first | assumption | exact Own.sl (by assumption))))))))) (by first | rw [List.length_map] | rfl) ?_; try (conv in (Act.put _ _ _) => simp only [Act.put, List.setIfInBounds_toArray, List.set_cons_succ, List.set_cons_zero]))
            | ((with_reducible refine g_at (d := 22) ?_); refine wpl_buildSlice (vs := [bU 0]) Tryd.underlying22 hi5 hz5 hs5 rfl (xs := [(.const (.int .u8 0))]) rfl rfl rfl (by intro u hu; simp at hu; subst hu; rfl) (by omega) ?_; intro v22 w22 h22 hx22 ha22; try (conv in (Act.put _ _ _) => simp only [Act.put, List.setIfInBounds_toArray, List.set_cons_succ, List.set_cons_zero])))
          go_roundw
          case rel =>
            refine ⟨k + 1, by omega, by go_num, ?_, (hx.tr hx34).trans hx35⟩
            rw [← tail_succ _ _ _ hlt, List.map_append]; exact h35
          case measure => simp [intOf]; omega
        · obtain rfl : k = 8 := by omega
          rw [← hz, tail_done] at ho
          go_wp2
          go_ret2
          exact ⟨_, rfl, hx, _, rfl, ho⟩

def half (n k : Nat) : List UInt8 := List.replicate (8 - k) 0 ++ (lenB n).drop (8 - k)
theorem length_half (n k : Nat) (h : k ≤ 8) : (half n k).length = 8 := by simp [half, length_lenB] <;> omega
theorem half_zero (n : Nat) : half n 0 = List.replicate 8 0 := by
  unfold half
  rw [List.drop_of_length_le (by rw [length_lenB]; omega)]; rfl
theorem half_all (n : Nat) : half n 8 = lenB n := rfl
theorem half_step (n k : Nat) (h : k < 8) : (half n k).set (7 - k) (UInt8.ofNat (8 * n / 256 ^ k % 256)) = half n (k + 1) := by
  unfold half
  have e : 8 - k = (7 - k) + 1 := by omega
  have hl : 7 - k < (lenB n).length := by rw [length_lenB]; omega
  have e2 : (8 - (k + 1)) = 7 - k := by omega
  rw [e2, e, List.replicate_succ', List.append_assoc, List.set_append_right _ _ (by simp)]
  have e3 := lenB_get n (7 - k) (by omega)
  rw [List.getElem?_eq_getElem hl] at e3
  injection e3 with e3
  rw [List.drop_eq_getElem_cons hl, e3]
  simp only [List.length_replicate, Nat.sub_self, List.cons_append, List.nil_append, List.set_cons_zero, List.append_cancel_left_eq, List.cons.injEq, and_true]
  have e4 : 56 - 8 * (7 - k) = 8 * k := by omega
  rw [e4, show (256 : Nat) ^ k = 2 ^ (8 * k) by rw [Nat.pow_mul]]
  apply UInt8.toNat_inj.1
  simp

set_option maxRecDepth 100000 in
set_option maxHeartbeats 4000000 in
theorem reftail_c (w : World) (n : Nat) (h : n ≤ 281474976710656) :
    Calls Tryd.prog 31 #[.int .i64 n] w (Ret fun v' w' => Ext w w' ∧ Own w' w.heap.size 5 v' ((tailOf n).map bU)) := by
  obtain ⟨i5, hi5, hz5, hs5, hb5⟩ := info_parts infoU8
  have hsz5 := info_size infoU8
  generalize hz : (119 - n % 64) % 64 = z
  go_enter Tryd.func31, Tryd.ntmps31
  go_wp2_with (first
    | ((with_reducible refine g_at (d := 7) ?_); refine wpl_buildSlice (vs := [bU 128]) Tryd.underlying22 hi5 hz5 hs5 rfl (xs := [(.const (.int .u8 128))]) rfl rfl rfl (by intro u hu; simp at hu; subst hu; rfl) (by omega) ?_; intro v7 w7 h7 hx7 ha7; try (conv in (Act.put _ _ _) => simp only [Act.put, List.setIfInBounds_toArray, List.set_cons_succ, List.set_cons_zero]))
    | ((with_reducible refine g_at (d := 10) ?_); refine wpl_len rfl Tryd.underlying22 (by first | assumption | exact Own.sl (by assumption) | exact Sl.back (by first | assumption | exact Ext.drew' (by assumption) | exact Ext.undrew (by assumption)) (by first | assumption | exact Own.sl (by assumption) | exact Sl.back (by first | assumption | exact Ext.drew' (by assumption) | exact Ext.undrew (by assumption)) (by first | assumption | exact Own.sl (by assumption) | exact Sl.back (by first | assumption | exact Ext.drew' (by assumption) | exact Ext.undrew (by assumption)) (by first | assumption | exact Own.sl (by assumption) | exact Sl.back (by first | assumption | exact Ext.drew' (by assumption) | exact Ext.undrew (by assumption)) (by first | assumption | exact Own.sl (by assumption) | exact Sl.back (by first | assumption | exact Ext.drew' (by assumption) | exact Ext.undrew (by assumption)) (by first | assumption | exact Own.sl (by assumption) | exact Sl.back (by first | assumption | exact Ext.drew' (by assumption) | exact Ext.undrew (by assumption)) (by first | assumption | exact Own.sl (by assumption) | exact Sl.back (by first | assumption | exact Ext.drew' (by assumption) | exact Ext.undrew (by assumption)) (by first | assumption | exact Own.sl (by assumption))))))))) (by first | rw [List.length_map] | rfl) ?_; try (conv in (Act.put _ _ _) => simp only [Act.put, List.setIfInBounds_toArray, List.set_cons_succ, List.set_cons_zero]))
    | ((with_reducible refine g_at (d := 16) ?_); refine wpl_buildSlice (vs := [bU 0]) Tryd.underlying22 hi5 hz5 hs5 rfl (xs := [(.const (.int .u8 0))]) rfl rfl rfl (by intro u hu; simp at hu; subst hu; rfl) (by omega) ?_; intro v16 w16 h16 hx16 ha16; try (conv in (Act.put _ _ _) => simp only [Act.put, List.setIfInBounds_toArray, List.set_cons_succ, List.set_cons_zero]))
    | ((with_reducible refine g_at (d := 30) ?_); refine wpl_index rfl rfl Tryd.underlying22 hi5 hs5 (by first | assumption | exact Own.sl (by assumption) | exact Sl.back (by first | assumption | exact Ext.drew' (by assumption) | exact Ext.undrew (by assumption)) (by first | assumption | exact Own.sl (by assumption) | exact Sl.back (by first | assumption | exact Ext.drew' (by assumption) | exact Ext.undrew (by assumption)) (by first | assumption | exact Own.sl (by assumption) | exact Sl.back (by first | assumption | exact Ext.drew' (by assumption) | exact Ext.undrew (by assumption)) (by first | assumption | exact Own.sl (by assumption) | exact Sl.back (by first | assumption | exact Ext.drew' (by assumption) | exact Ext.undrew (by assumption)) (by first | assumption | exact Own.sl (by assumption) | exact Sl.back (by first | assumption | exact Ext.drew' (by assumption) | exact Ext.undrew (by assumption)) (by first | assumption | exact Own.sl (by assumption) | exact Sl.back (by first | assumption | exact Ext.drew' (by assumption) | exact Ext.undrew (by assumption)) (by first | assumption | exact Own.sl (by assumption) | exact Sl.back (by first | assumption | exact Ext.drew' (by assumption) | exact Ext.undrew (by assumption)) (by first | assumption | exact Own.sl (by assumption))))))))) rfl (at_getD (by first | omega | (simp <;> omega))) ?_; intro ad30 hb30 hc30; try (conv in (Act.put _ _ _) => simp only [Act.put, List.setIfInBounds_toArray, List.set_cons_succ, List.set_cons_zero])))
  go_loopw [3] (fun o wr => ∃ j : Nat, j ≤ z ∧ Own wr w.heap.size 5 o ((tl j).map bU) ∧ Ext w wr) (fun o _ => 100 - slen o)
  case atStart => exact ⟨0, by omega, h7, hx7⟩
  case round =>
    obtain ⟨j, hj, ho, hx⟩ := hrel
    have hlen := length_tl j
    have hsl : slen u3 = j + 1 := by rw [ho.slen]; simp [hlen]
    by_cases hlt : j < z
    · have ht : ¬ ((n : Int) + (j + 1) + 8) % 64 = 0 := by omega
      go_wp2_with (first
        | ((with_reducible refine g_at (d := 10) ?_); refine wpl_len rfl Tryd.underlying22 ho.sl (by first | rw [List.length_map] | rfl) ?_; try (conv in (Act.put _ _ _) => simp only [Act.put, List.setIfInBounds_toArray, List.set_cons_succ, List.set_cons_zero]))
        | ((with_reducible refine g_at (d := 16) ?_); refine wpl_buildSlice (vs := [bU 0]) Tryd.underlying22 hi5 hz5 hs5 rfl (xs := [(.const (.int .u8 0))]) rfl rfl rfl (by intro u hu; simp at hu; subst hu; rfl) (by omega) ?_; intro v16 w16 h16 hx16 ha16; try (conv in (Act.put _ _ _) => simp only [Act.put, List.setIfInBounds_toArray, List.set_cons_succ, List.set_cons_zero]))
        | ((with_reducible refine g_at (d := 17) ?_); refine wpl_append (v := u3) rfl rfl Tryd.underlying22 hi5 hz5 hs5 hb5 rfl (ho.ext hx16) h16.sl (bU_one [0]) (by first | omega | (simp <;> omega)) (by omega) (Nat.le_trans hx.size hx16.size) ?_; intro v17 w17 h17 hg17 ha17 hx17; try (conv in (Act.put _ _ _) => simp only [Act.put, List.setIfInBounds_toArray, List.set_cons_succ, List.set_cons_zero]))
        | ((with_reducible refine g_at (d := 7) ?_); refine wpl_buildSlice (vs := [bU 128]) Tryd.underlying22 hi5 hz5 hs5 rfl (xs := [(.const (.int .u8 128))]) rfl rfl rfl (by intro u hu; simp at hu; subst hu; rfl) (by omega) ?_; intro v7 w7 h7 hx7 ha7; try (conv in (Act.put _ _ _) => simp only [Act.put, List.setIfInBounds_toArray, List.set_cons_succ, List.set_cons_zero]))
        | ((with_reducible refine g_at (d := 30) ?_); refine wpl_index rfl rfl Tryd.underlying22 hi5 hs5 (by first | assumption | exact Own.sl (by assumption) | exact Sl.back (by first | assumption | exact Ext.drew' (by assumption) | exact Ext.undrew (by assumption)) (by first | assumption | exact Own.sl (by assumption) | exact Sl.back (by first | assumption | exact Ext.drew' (by assumption) | exact Ext.undrew (by assumption)) (by first | assumption | exact Own.sl (by assumption) | exact Sl.back (by first | assumption | exact Ext.drew' (by assumption) | exact Ext.undrew (by assumption)) (by first | assumption | exact Own.sl (by assumption) | exact Sl.back (by first | assumption | exact Ext.drew' (by assumption) | exact Ext.undrew (by assumption)) (by first | assumption | exact Own.sl (by assumption) | exact Sl.back (by first | assumption | exact Ext.drew' (by assumption) | exact Ext.undrew (by assumption)) (by first | assumption | exact Own.sl (by assumption) | exact Sl.back (by first | assumption | exact Ext.drew' (by assumption) | exact Ext.undrew (by assumption)) (by first | assumption | exact Own.sl (by assumption) | exact Sl.back (by first | assumption | exact Ext.drew' (by assumption) | exact Ext.undrew (by assumption)) (by first | assumption | exact Own.sl (by assumption))))))))) rfl (at_getD (by first | omega | (simp <;> omega))) ?_; intro ad30 hb30 hc30; try (conv in (Act.put _ _ _) => simp only [Act.put, List.setIfInBounds_toArray, List.set_cons_succ, List.set_cons_zero])))
      go_roundw
      case rel =>
        refine ⟨j + 1, by omega, ?_, (hx.tr hx16).trans hx17⟩
        rw [← tl_succ, List.map_append]; exact h17
      case measure => rw [h17.slen, hsl]; simp [hlen]; omega
    · obtain rfl : j = z := by omega
      have ht : ((n : Int) + (j + 1) + 8) % 64 = 0 := by omega
      go_wp2_with (first
        | ((with_reducible refine g_at (d := 10) ?_); refine wpl_len rfl Tryd.underlying22 ho.sl (by first | rw [List.length_map] | rfl) ?_; try (conv in (Act.put _ _ _) => simp only [Act.put, List.setIfInBounds_toArray, List.set_cons_succ, List.set_cons_zero]))
        | ((with_reducible refine g_at (d := 18) ?_); refine wpl_make (n := 8) rfl rfl Tryd.underlying22 hi5 hz5 hs5 rfl (by first | rfl | omega | (simp <;> omega)) (by first | rfl | omega | (simp <;> omega)) (by rw [hb5]; omega) (by omega) ?_; intro v18 w18 h18 hx18 ha18; try (conv in (Act.put _ _ _) => simp only [Act.put, List.setIfInBounds_toArray, List.set_cons_succ, List.set_cons_zero]))
        | ((with_reducible refine g_at (d := 7) ?_); refine wpl_buildSlice (vs := [bU 128]) Tryd.underlying22 hi5 hz5 hs5 rfl (xs := [(.const (.int .u8 128))]) rfl rfl rfl (by intro u hu; simp at hu; subst hu; rfl) (by omega) ?_; intro v7 w7 h7 hx7 ha7; try (conv in (Act.put _ _ _) => simp only [Act.put, List.setIfInBounds_toArray, List.set_cons_succ, List.set_cons_zero]))
        | ((with_reducible refine g_at (d := 16) ?_); refine wpl_buildSlice (vs := [bU 0]) Tryd.underlying22 hi5 hz5 hs5 rfl (xs := [(.const (.int .u8 0))]) rfl rfl rfl (by intro u hu; simp at hu; subst hu; rfl) (by omega) ?_; intro v16 w16 h16 hx16 ha16; try (conv in (Act.put _ _ _) => simp only [Act.put, List.setIfInBounds_toArray, List.set_cons_succ, List.set_cons_zero]))
        | ((with_reducible refine g_at (d := 30) ?_); refine wpl_index rfl rfl Tryd.underlying22 hi5 hs5 (by first | assumption | exact Own.sl (by assumption) | exact Sl.back (by first | assumption | exact Ext.drew' (by assumption) | exact Ext.undrew (by assumption)) (by first | assumption | exact Own.sl (by assumption) | exact Sl.back (by first | assumption | exact Ext.drew' (by assumption) | exact Ext.undrew (by assumption)) (by first | assumption | exact Own.sl (by assumption) | exact Sl.back (by first | assumption | exact Ext.drew' (by assumption) | exact Ext.undrew (by assumption)) (by first | assumption | exact Own.sl (by assumption) | exact Sl.back (by first | assumption | exact Ext.drew' (by assumption) | exact Ext.undrew (by assumption)) (by first | assumption | exact Own.sl (by assumption) | exact Sl.back (by first | assumption | exact Ext.drew' (by assumption) | exact Ext.undrew (by assumption)) (by first | assumption | exact Own.sl (by assumption) | exact Sl.back (by first | assumption | exact Ext.drew' (by assumption) | exact Ext.undrew (by assumption)) (by first | assumption | exact Own.sl (by assumption) | exact Sl.back (by first | assumption | exact Ext.drew' (by assumption) | exact Ext.undrew (by assumption)) (by first | assumption | exact Own.sl (by assumption))))))))) rfl (at_getD (by first | omega | (simp <;> omega))) ?_; intro ad30 hb30 hc30; try (conv in (Act.put _ _ _) => simp only [Act.put, List.setIfInBounds_toArray, List.set_cons_succ, List.set_cons_zero])))
      have hxa := hx.tr hx18
      have HB := Lib.hid (show u3.ownBlock ≠ some wr.heap.size from fun e => by have := (ho.lt _ e).2; omega)
      have HA := Lib.hid ha18
      clear ha18
      have h18' : Own w18 wr.heap.size 5 v18 ((half n 0).map bU) := by rw [half_zero]; exact h18
      have hsz := hx.size
      go_loopw [6, 5] (fun i b wq => ∃ k : Nat, k ≤ 8 ∧ i = .int .i64 (7 - (k : Int)) ∧ b = .int .i64 ((8 * n / 256 ^ k : Nat) : Int) ∧ Own wq wr.heap.size 5 v18 ((half n k).map bU) ∧ Own wq w.heap.size 5 u3 ((tl j).map bU) ∧ Ext w wq ∧ wr.heap.size ≤ wq.heap.size) (fun i _ _ => (intOf i + 1).toNat)
      case atStart => exact ⟨0, by omega, rfl, by simp, h18', ho.ext hx18, hxa, hx18.size⟩
      case round =>
        obtain ⟨k, hk, rfl, rfl, hl, ho, hx, hsq⟩ := hrel
        have hlen2 := length_half n k hk
        by_cases hlt : k < 8
        · have hq : 8 * n / 256 ^ k ≤ 8 * n := Nat.div_le_self _ _
          generalize hqe : 8 * n / 256 ^ k = q at hq
          have HQ := Lib.hid hqe
          clear hqe
          go_wp2_with (first
            | ((with_reducible refine g_at (d := 29) ?_); refine wpl_conv rfl (by rw [show ((q : Int) % 256) = ((q % 256 : Nat) : Int) by omega]; exact conv_nb Tryd.underlying3 Tryd.underlying5 _ _) ?_; try (conv in (Act.put _ _ _) => simp only [Act.put, List.setIfInBounds_toArray, List.set_cons_succ, List.set_cons_zero]))
            | ((with_reducible refine g_at (d := 30) ?_); refine wpl_ixown (k := 7 - k) rfl rfl Tryd.underlying22 hi5 hs5 hl (by first | rfl | omega | (simp <;> omega)) (by first | omega | (simp <;> omega)) ?_; intro ad30 at30 hc30; try (conv in (Act.put _ _ _) => simp only [Act.put, List.setIfInBounds_toArray, List.set_cons_succ, List.set_cons_zero]))
            | ((with_reducible refine g_storeat (n := 30) ?_); refine wpl_storeown rfl rfl hi5 hs5 rfl rfl at30 hl (by first | omega | (simp <;> omega)) ?_; intro ws30 hBs30 hgs30 hzs30; (try simp only [Act.eval, Array.getD_eq_getD_getElem?, List.getElem?_toArray, List.getElem?_cons_succ, List.getElem?_cons_zero, Option.getD_some] at hBs30); (try simp only [← List.getD_eq_getElem?_getD] at hBs30); try (conv in (Act.put _ _ _) => simp only [Act.put, List.setIfInBounds_toArray, List.set_cons_succ, List.set_cons_zero]))
            | ((with_reducible refine g_at (d := 7) ?_); refine wpl_buildSlice (vs := [bU 128]) Tryd.underlying22 hi5 hz5 hs5 rfl (xs := [(.const (.int .u8 128))]) rfl rfl rfl (by intro u hu; simp at hu; subst hu; rfl) (by omega) ?_; intro v7 w7 h7 hx7 ha7; try (conv in (Act.put _ _ _) => simp only [Act.put, List.setIfInBounds_toArray, List.set_cons_succ, List.set_cons_zero]))
            | ((with_reducible refine g_at (d := 10) ?_); refine wpl_len rfl Tryd.underlying22 (by first | assumption | exact Own.sl (by assumption) | exact Sl.back (by first | assumption | exact Ext.drew' (by assumption) | exact Ext.undrew (by assumption)) (by first | assumption | exact Own.sl (by assumption) | exact Sl.back (by first | assumption | exact Ext.drew' (by assumption) | exact Ext.undrew (by assumption)) (by first | assumption | exact Own.sl (by assumption) | exact Sl.back (by first | assumption | exact Ext.drew' (by assumption) | exact Ext.undrew (by assumption)) (by first | assumption | exact Own.sl (by assumption) | exact Sl.back (by first | assumption | exact Ext.drew' (by assumption) | exact Ext.undrew (by assumption)) (by first | assumption | exact Own.sl (by assumption) | exact Sl.back (by first | assumption | exact Ext.drew' (by assumption) | exact Ext.undrew (by assumption)) (by first | assumption | exact Own.sl (by assumption) | exact Sl.back (by first | assumption | exact Ext.drew' (by assumption) | exact Ext.undrew (by assumption)) (by first | assumption | exact Own.sl (by assumption) | exact Sl.back (by first | assumption | exact Ext.drew' (by assumption) | exact Ext.undrew (by assumption)) (by first | assumption | exact Own.sl (by assumption))))))))) (by first | rw [List.length_map] | rfl) ?_; try (conv in (Act.put _ _ _) => simp only [Act.put, List.setIfInBounds_toArray, List.set_cons_succ, List.set_cons_zero]))
            | ((with_reducible refine g_at (d := 16) ?_); refine wpl_buildSlice (vs := [bU 0]) Tryd.underlying22 hi5 hz5 hs5 rfl (xs := [(.const (.int .u8 0))]) rfl rfl rfl (by intro u hu; simp at hu; subst hu; rfl) (by omega) ?_; intro v16 w16 h16 hx16 ha16; try (conv in (Act.put _ _ _) => simp only [Act.put, List.setIfInBounds_toArray, List.set_cons_succ, List.set_cons_zero])))
          go_roundw
          case rel =>
            have e : (half n k).set (7 - k) (UInt8.ofNat (q % 256)) = half n (k + 1) := by rw [← HQ.out]; exact half_step n k hlt
            refine ⟨k + 1, by omega, by go_num, ?_, ?_, ?_, ?_, by omega⟩
            · rw [Nat.pow_succ, ← Nat.div_div_eq_div_mul, HQ.out]; go_num
            · rw [← e, List.map_set]; exact hBs30
            · exact ho.kept hgs30 (.inr fun e => HB.out (e.trans HA.out))
            · exact hx.trans ((Below.refl _ _).grown hgs30 hx.size (fun g hg => by have := (hl.lt g hg).1; omega))
          case measure => simp [intOf]; omega
        · obtain rfl : k = 8 := by omega
          rw [half_all] at hl
          have hl8 := length_lenB n
          go_wp2_with (first
            | ((with_reducible refine g_at (d := 35) ?_); refine wpl_append (v := u3) rfl rfl Tryd.underlying22 hi5 hz5 hs5 hb5 rfl ho hl.sl (bU_one _) (by first | omega | (simp <;> omega)) (by omega) hx.size ?_; intro v35 w35 h35 hg35 ha35 hx35; try (conv in (Act.put _ _ _) => simp only [Act.put, List.setIfInBounds_toArray, List.set_cons_succ, List.set_cons_zero]))
            | ((with_reducible refine g_at (d := 7) ?_); refine wpl_buildSlice (vs := [bU 128]) Tryd.underlying22 hi5 hz5 hs5 rfl (xs := [(.const (.int .u8 128))]) rfl rfl rfl (by intro u hu; simp at hu; subst hu; rfl) (by omega) ?_; intro v7 w7 h7 hx7 ha7; try (conv in (Act.put _ _ _) => simp only [Act.put, List.setIfInBounds_toArray, List.set_cons_succ, List.set_cons_zero]))
            | ((with_reducible refine g_at (d := 10) ?_); refine wpl_len rfl Tryd.underlying22 (by first | assumption | exact Own.sl (by assumption) | exact Sl.back (by first | assumption | exact Ext.drew' (by assumption) | exact Ext.undrew (by assumption)) (by first | assumption | exact Own.sl (by assumption) | exact Sl.back (by first | assumption | exact Ext.drew' (by assumption) | exact Ext.undrew (by assumption)) (by first | assumption | exact Own.sl (by assumption) | exact Sl.back (by first | assumption | exact Ext.drew' (by assumption) | exact Ext.undrew (by assumption)) (by first | assumption | exact Own.sl (by assumption) | exact Sl.back (by first | assumption | exact Ext.drew' (by assumption) | exact Ext.undrew (by assumption)) (by first | assumption | exact Own.sl (by assumption) | exact Sl.back (by first | assumption | exact Ext.drew' (by assumption) | exact Ext.undrew (by assumption)) (by first | assumption | exact Own.sl (by assumption) | exact Sl.back (by first | assumption | exact Ext.drew' (by assumption) | exact Ext.undrew (by assumption)) (by first | assumption | exact Own.sl (by assumption) | exact Sl.back (by first | assumption | exact Ext.drew' (by assumption) | exact Ext.undrew (by assumption)) (by first | assumption | exact Own.sl (by assumption))))))))) (by first | rw [List.length_map] | rfl) ?_; try (conv in (Act.put _ _ _) => simp only [Act.put, List.setIfInBounds_toArray, List.set_cons_succ, List.set_cons_zero]))
            | ((with_reducible refine g_at (d := 16) ?_); refine wpl_buildSlice (vs := [bU 0]) Tryd.underlying22 hi5 hz5 hs5 rfl (xs := [(.const (.int .u8 0))]) rfl rfl rfl (by intro u hu; simp at hu; subst hu; rfl) (by omega) ?_; intro v16 w16 h16 hx16 ha16; try (conv in (Act.put _ _ _) => simp only [Act.put, List.setIfInBounds_toArray, List.set_cons_succ, List.set_cons_zero]))
            | ((with_reducible refine g_at (d := 30) ?_); refine wpl_index rfl rfl Tryd.underlying22 hi5 hs5 (by first | assumption | exact Own.sl (by assumption) | exact Sl.back (by first | assumption | exact Ext.drew' (by assumption) | exact Ext.undrew (by assumption)) (by first | assumption | exact Own.sl (by assumption) | exact Sl.back (by first | assumption | exact Ext.drew' (by assumption) | exact Ext.undrew (by assumption)) (by first | assumption | exact Own.sl (by assumption) | exact Sl.back (by first | assumption | exact Ext.drew' (by assumption) | exact Ext.undrew (by assumption)) (by first | assumption | exact Own.sl (by assumption) | exact Sl.back (by first | assumption | exact Ext.drew' (by assumption) | exact Ext.undrew (by assumption)) (by first | assumption | exact Own.sl (by assumption) | exact Sl.back (by first | assumption | exact Ext.drew' (by assumption) | exact Ext.undrew (by assumption)) (by first | assumption | exact Own.sl (by assumption) | exact Sl.back (by first | assumption | exact Ext.drew' (by assumption) | exact Ext.undrew (by assumption)) (by first | assumption | exact Own.sl (by assumption) | exact Sl.back (by first | assumption | exact Ext.drew' (by assumption) | exact Ext.undrew (by assumption)) (by first | assumption | exact Own.sl (by assumption))))))))) rfl (at_getD (by first | omega | (simp <;> omega))) ?_; intro ad30 hb30 hc30; try (conv in (Act.put _ _ _) => simp only [Act.put, List.setIfInBounds_toArray, List.set_cons_succ, List.set_cons_zero])))
          go_ret
          exact ⟨_, rfl, hx.trans hx35, by rw [← tail_done, hz, List.take_of_length_le (by rw [length_lenB]; omega), List.map_append]; exact h35⟩
end Go.Proofs.YtamddohbpdbdmaaDoor
