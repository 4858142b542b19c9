import Derived.Test.YtliilihbnhdemaaSxV
import Derived.Test.YtliilihbnhdemaaProg
import Derived.Shelf.RegionOpenPlain
import Derived.WalkKit
import Derived.Deep.LoopGhost
import Derived.Lib.Walk
import Derived.Sort.WalkB12
import Derived.Lib.SlicesMore
set_option linter.unusedVariables false
set_option linter.unusedSimpArgs false
namespace Go.Proofs.Ytliilihbnhdemaa
open Go.RowKit Go.Ch Go.Sx Go.Lib Go.Sort Go.Shelf Go.Proofs

theorem u8_info : (Try.prog.info? 5).map (fun i => (i.zero, i.size, i.bytes)) = some (some (.int .u8 0), 1, 1) := by kernel_rfl
set_option maxHeartbeats 1600000 in
set_option maxRecDepth 1000000 in
theorem rev_arr (blk off cap : Nat) (d : Array UInt8) (w : World) (hH : Holds bU w blk off d) (hsz : d.size ≤ 9223372036854775807) :
    Calls Try.prog 81 #[.slice (some ⟨blk, off, none⟩) d.size cap] w fun e w' => e = .returned (.tuple #[]) ∧ ∃ n, w' = putRow bU (Sort.ahead w n) blk off d.reverse := by
  have mixed : Try.prog.follows .mixedOrders = true := by kernel_rfl
  have t3 : Try.prog.underlying 3 = some (.int .i64) := by kernel_rfl
  have t4 : Try.prog.underlying 4 = some .bool := by kernel_rfl
  have t22 : Try.prog.underlying 22 = some (.slice 5) := by kernel_rfl
  have t5 : Try.prog.underlying 5 = some (.int .u8) := by kernel_rfl
  have a3 : ∀ w, (isAgg 3).run Try.prog w = .ok false w := fun w => run_isAgg_no t3 rfl
  have a4 : ∀ w, (isAgg 4).run Try.prog w = .ok false w := fun w => run_isAgg_no t4 rfl
  have a22 : ∀ w, (isAgg 22).run Try.prog w = .ok false w := fun w => run_isAgg_no t22 rfl
  have a23 : ∀ w, (isAgg 5).run Try.prog w = .ok false w := fun w => run_isAgg_no t5 rfl
  have z3 : ∀ w, (Go.sizeOf 3).run Try.prog w = .ok 1 w := fun w => by kernel_rfl
  have z4 : ∀ w, (Go.sizeOf 4).run Try.prog w = .ok 1 w := fun w => by kernel_rfl
  have z22 : ∀ w, (Go.sizeOf 22).run Try.prog w = .ok 1 w := fun w => by kernel_rfl
  have z23 : ∀ w, (Go.sizeOf 5).run Try.prog w = .ok 1 w := fun w => by kernel_rfl
  go_enter Try.func81, Try.ntmps81
  go_wp2
  go_loopg [2, 3] d.size (fun k s2 s3 wr => ∃ (i jn : Nat) (jz : Int) (dk : Array UInt8) (n : Nat), s2 = .int .i64 i ∧ s3 = .int .i64 jz ∧ ((i : Int) < jz → jz = jn ∧ jn < d.size) ∧ (¬ (i : Int) < jz → ¬ i < jn) ∧ jn - i ≤ k ∧
    dk.size = d.size ∧ wr = putRow bU (Sort.ahead w n) blk off dk ∧ reverseLoop i jn dk = reverseLoop 0 (d.size - 1) d)
  case atStart => exact ⟨0, d.size - 1, (d.size : Int) - 1, d, 0, rfl, rfl, fun h => ⟨by omega, by omega⟩, fun h => by omega, by omega, rfl, (putRow_self bU w blk off d hH).symm, rfl⟩
  case round =>
    obtain ⟨i, jn, jz, dk, n, rfl, rfl, h1, h2, hk, hds, hwr, heq⟩ := hrel
    by_cases hlt : (i : Int) < jz
    · obtain ⟨rfl, hjn⟩ := h1 hlt
      have hij : i < jn := by omega
      have hHk : Holds bU wr blk off dk := by rw [hwr]; exact holds_putRow bU _ blk off d dk (holds_ahead bU w n blk off d hH) hds
      obtain ⟨ci, fi⟩ := hHk i (by omega)
      obtain ⟨cj, fj⟩ := hHk jn (by omega)
      simp only [bU] at ci cj
      have A : Aside (wr = putRow bU (Sort.ahead w n) blk off dk) := hwr
      clear hwr hHk hH h1 h2
      go_wp2_with fail
      go_region_o
      go_wp2
      go_roundg (jn - 1 - (i + 1))
      case measure => omega
      case rel =>
        rw [reverseLoop, if_pos hij] at heq
        exact ⟨i + 1, jn - 1, (jn : Int) - 1, swp dk i jn, n + 1, by simp, rfl, fun h => ⟨by omega, by omega⟩, fun h => by omega, Nat.le_refl _, by rw [size_swp]; exact hds,
          swap_world bU (by omega) (by omega) A.out (by first | rfl | simp [bU, getElem!_pos, show jn < dk.size by omega]) (by first | rfl | simp [bU, getElem!_pos, show i < dk.size by omega]), heq⟩
    · have hnot := h2 hlt
      go_wp2
      go_end0
      refine ⟨rfl, n, ?_⟩
      rw [reverseLoop, if_neg hnot] at heq
      rw [← Lib.reverseLoop_reverse, ← heq]
theorem heap_put (w : World) (n blk : Nat) (d : Array UInt8) (k : Nat) : (putRow bU (Sort.ahead w n) blk 0 d).heap[k]? = if blk = k then (w.heap[k]?).map (onCells (putCells bU 0 d)) else w.heap[k]? := by
  show (w.heap.modify blk (onCells (putCells bU 0 d)))[k]? = _
  rw [Array.getElem?_modify]
/-- a row of one's own turned about -/
theorem rev_c (w : World) (B : Nat) (v : Value) (l : List UInt8) (hv : Own w B 5 v (l.map bU)) (hne : l ≠ []) :
    Calls Try.prog 81 #[v] w (Ret fun v' w' => Own w' B 5 v (l.reverse.map bU) ∧ w.grownBy w' v.ownBlock) := by
  obtain ⟨h1, h2⟩ := hv
  rcases h2 with ⟨_, h0⟩ | ⟨g, cap, cur, rfl, hB, hg, hc, hm, hs, ht⟩
  · rw [List.length_map] at h0
    exact absurd (List.eq_nil_of_length_eq_zero h0) hne
  · rw [List.length_map] at *
    rw [Nat.mul_one] at ht hs
    have hlen : l.length ≤ cur.size := by omega
    have hH : Holds bU w g 0 l.toArray := by
      intro j hj
      have hj' : j < l.length := by simpa using hj
      have hcj : cur.toList[j]? = some (bU l[j]) := by
        have := congrArg (·[j]?) ht
        simp only [List.getElem?_take, if_pos hj', List.getElem?_map, List.getElem?_eq_getElem hj', Option.map_some] at this
        exact this
      refine ⟨?_, ?_⟩
      · simp only [World.cell?, hg, Nat.zero_add]
        rw [getElem!_pos l.toArray j hj]
        simpa using hcj
      · simp only [World.frozen?, hg]
        simp
    have hr := rev_arr g 0 cap l.toArray w hH (by simp; unfold maxLen at hm; omega)
    rw [List.size_toArray] at hr
    refine hr.mono fun e w' ⟨he, n, hw⟩ => ?_
    refine ⟨_, he, ?_, ?_⟩
    · refine ⟨by simp, .inr ⟨g, cap, putCells bU 0 l.reverse.toArray cur, by simp, hB, ?_, by simpa using hc, hm, ?_, ?_⟩⟩
      · rw [hw, List.reverse_toArray, heap_put, if_pos rfl, hg]; rfl
      · simp [putCells, hs]
      · apply List.ext_getElem?
        intro j
        simp only [List.length_map, List.length_reverse, Nat.mul_one, List.getElem?_take, putCells, Array.getElem?_toList, Array.getElem?_mapIdx, List.getElem?_map]
        by_cases hj : j < l.length
        · have hjs : j < cur.size := by omega
          have hjr : j < l.reverse.length := by simpa using hj
          rw [if_pos hj, Array.getElem?_eq_getElem hjs, List.getElem?_eq_getElem hjr]
          simp only [Option.map_some, Nat.zero_le, true_and, Nat.zero_add, Nat.sub_zero, List.size_toArray, List.length_reverse, hj, if_true]
          rw [getElem!_pos l.reverse.toArray j (by simpa using hj)]
          simp
        · rw [if_neg hj, List.getElem?_eq_none (by simpa using hj)]; rfl
    · refine ⟨by rw [hw]; rfl, by rw [hw]; rfl, by rw [hw]; rfl, by rw [hw]; simp [putRow, mapBlock, Sort.ahead], fun k hk hne => ?_⟩
      rw [hw, List.reverse_toArray, heap_put, if_neg (fun h => hne (by rw [h]; rfl))]
section words
variable {P : Program} {w : World}
theorem run_or8 (t : TypeId) (ex ey : Operand) (x y : UInt8) (w : World) : binRun P .or t ex ey (bU x) (bU y) w = .ok (bU (x ||| y)) w := by
  have e : ∀ x : UInt8, BitVec.ofInt 8 (x.toNat : Int) = x.toBitVec := fun x => by
    rw [BitVec.ofInt_natCast]
    apply BitVec.eq_of_toNat_eq
    simp
  have b : ∀ r : BitVec 8, IntKind.u8.wrap (r.toNat : Int) = (r.toNat : Int) := fun r => by
    have := r.isLt
    rw [IntKind.wrap_u8]; omega
  simp only [binRun, bU, Sem.run_bind, guard_int, Result.andThen_ok]
  simp only [binOp, if_neg (show ¬ (IntKind.u8 ≠ IntKind.u8) by simp), Op.intBits, Sem.run_pure]
  show Result.ok (Value.int .u8 (IntKind.u8.wrap ((BitVec.ofInt 8 (x.toNat : Int) ||| BitVec.ofInt 8 (y.toNat : Int)).toNat : Int))) w = _
  rw [e, e, b]
  rfl
theorem run_gt32 (t : TypeId) (ex ey : Operand) (x y : UInt32) (w : World) : binRun P .gtr t ex ey (w32 x) (w32 y) w = .ok (.bool (decide (y < x))) w := by
  simp only [binRun, w32, Sem.run_bind, guard_int, Result.andThen_ok]
  simp only [binOp, if_neg (show ¬ (IntKind.u32 ≠ IntKind.u32) by simp), Op.intCmp, Sem.run_pure]
  congr 2
  rw [Bool.eq_iff_iff]
  simp [UInt32.lt_iff_toNat_lt]
end words
/-- a number's groups of seven bits, the lowest first -/
def grpT : Nat → UInt32 → List UInt8
  | 0, _ => []
  | f + 1, n => if n = 0 then [] else ((n &&& 127).toUInt8 ||| 128) :: grpT f (n >>> 7)
def grp (n : UInt32) : List UInt8 := ((n &&& 127).toUInt8 :: grpT 5 (n >>> 7)).reverse
theorem shr7 (n : UInt32) : (n >>> UInt32.ofNat 7).toNat = n.toNat / 128 := by
  rw [UInt32.toNat_shiftRight, Nat.shiftRight_eq_div_pow]; rfl
theorem shr7' (n : UInt32) : (n >>> 7) = (n >>> UInt32.ofNat 7) := rfl
set_option maxHeartbeats 800000 in
theorem group_c (w : World) (n : UInt32) :
    Calls Try.prog 65 #[w32 n] w (Ret fun v' w' => Ext w w' ∧ Own w' w.heap.size 5 v' ((grp n).map bU)) := by
  obtain ⟨i5, hi5, hz5, hs5, hb5⟩ := info_parts u8_info
  go_enter Try.func65, Try.ntmps65
  go_wp2_with (first
    | ((with_reducible refine g_at (d := 5) ?_); refine wpl_bin rfl rfl (by exact run_and32 _ _ _ n 127 _) ?_; try (conv in (Act.put _ _ _) => simp only [Act.put, List.setIfInBounds_toArray, List.set_cons_succ, List.set_cons_zero]))
    | ((with_reducible refine g_at (d := 6) ?_); refine wpl_conv rfl (by exact conv_wb Try.underlying89 Try.underlying5 _ _) ?_; try (conv in (Act.put _ _ _) => simp only [Act.put, List.setIfInBounds_toArray, List.set_cons_succ, List.set_cons_zero]))
    | ((with_reducible refine g_at (d := 7) ?_); refine wpl_buildSlice (vs := [bU (n &&& 127).toUInt8]) Try.underlying22 hi5 hz5 hs5 rfl (xs := [(.tmp 6)]) rfl rfl rfl (by intro u hu; simp at hu; subst hu; rfl) (by omega) ?_; intro v7 w7 h7 hx7 ha7; try (conv in (Act.put _ _ _) => simp only [Act.put, List.setIfInBounds_toArray, List.set_cons_succ, List.set_cons_zero]))
    | ((with_reducible refine g_at (d := 9) ?_); refine wpl_bin rfl rfl (by exact run_shr32 _ _ _ n .u64 7 (by decide) _) ?_; try (conv in (Act.put _ _ _) => simp only [Act.put, List.setIfInBounds_toArray, List.set_cons_succ, List.set_cons_zero]))
    | ((with_reducible refine g_at (d := 17) ?_); refine wpl_conv rfl (by exact conv_wb Try.underlying89 Try.underlying5 _ _) ?_; try (conv in (Act.put _ _ _) => simp only [Act.put, List.setIfInBounds_toArray, List.set_cons_succ, List.set_cons_zero])))
  generalize ha : (n &&& 127).toUInt8 = a at *
  generalize hm : n >>> UInt32.ofNat 7 = m0
  have hm0 : m0.toNat < 128 ^ 5 := by rw [← hm, shr7]; have := lt32 n; omega
  have hgrp : grp n = (a :: grpT 5 m0).reverse := by unfold grp; rw [ha, shr7', hm]
  have HG := Lib.hid hgrp
  clear hgrp hm ha
  go_loopw [0, 3] (fun nv o wr => ∃ (k : Nat) (m : UInt32) (xs : List UInt8), nv = w32 m ∧ k ≤ 5 ∧ m.toNat < 128 ^ k ∧ xs.length + k = 6 ∧ Own wr w.heap.size 5 o (xs.map bU) ∧ Ext w wr ∧ Hid (xs ++ grpT k m = a :: grpT 5 m0)) (fun nv _ _ => (RowKit.intOf nv).toNat)
  case atStart => exact ⟨5, m0, [a], rfl, Nat.le_refl _, hm0, rfl, h7, hx7, Lib.hid rfl⟩
  case round =>
    obtain ⟨k, m, xs, rfl, hk, hmk, hxl, ho, hx, hxs⟩ := hrel
    by_cases hz : m = 0
    · have E11 : Hid (∀ t ex ey w, binRun Try.prog .gtr t ex ey (w32 m) (.int .u32 0) w = .ok (.bool false) w) := Lib.hid (fun t ex ey w => (run_gt32 t ex ey m 0 w).trans (by rw [hz]; rfl))
      have HZ := Lib.hid hz
      clear hz
      go_wp2_with (first
        | ((with_reducible refine g_at (d := 11) ?_); refine wpl_bin rfl rfl (by exact E11.out _ _ _ _) ?_; try (conv in (Act.put _ _ _) => simp only [Act.put, List.setIfInBounds_toArray, List.set_cons_succ, List.set_cons_zero]))
        | ((with_reducible refine g_at (d := 22) ?_); refine wpl_call Try.func81 (by kernel_rfl) (by kernel_rfl) rfl (rev_c _ _ _ xs ho (by intro h; rw [h] at hxl; simp at hxl; omega)) ?_; rintro v22 w22 ⟨h22, hg22⟩; try (conv in (Act.put _ _ _) => simp only [Act.put, List.setIfInBounds_toArray, List.set_cons_succ, List.set_cons_zero]))
        | ((with_reducible refine g_at (d := 6) ?_); refine wpl_conv rfl (by exact conv_wb Try.underlying89 Try.underlying5 _ _) ?_; try (conv in (Act.put _ _ _) => simp only [Act.put, List.setIfInBounds_toArray, List.set_cons_succ, List.set_cons_zero]))
        | ((with_reducible refine g_at (d := 17) ?_); refine wpl_conv rfl (by exact conv_wb Try.underlying89 Try.underlying5 _ _) ?_; try (conv in (Act.put _ _ _) => simp only [Act.put, List.setIfInBounds_toArray, List.set_cons_succ, List.set_cons_zero])))
      go_ret
      have hl : xs = a :: grpT 5 m0 := by
        have h := hxs.out
        rw [HZ.out] at h
        have h0 : grpT k 0 = [] := by cases k <;> rfl
        rwa [h0, List.append_nil] at h
      refine ⟨_, rfl, hx.grown hg22 hx.size (fun b hb => (ho.lt b hb).1), ?_⟩
      rw [HG.out, ← hl]; exact h22
    · have E11 : Hid (∀ t ex ey w, binRun Try.prog .gtr t ex ey (w32 m) (.int .u32 0) w = .ok (.bool true) w) := Lib.hid (fun t ex ey w => (run_gt32 t ex ey m 0 w).trans (by
        rw [decide_eq_true (by
          rw [UInt32.lt_iff_toNat_lt]
          exact Nat.pos_of_ne_zero fun h => hz (UInt32.toNat_inj.1 h))]))
      have HZ := Lib.hid hz
      clear hz
      go_wp2_with (first
        | ((with_reducible refine g_at (d := 11) ?_); refine wpl_bin rfl rfl (by exact E11.out _ _ _ _) ?_; try (conv in (Act.put _ _ _) => simp only [Act.put, List.setIfInBounds_toArray, List.set_cons_succ, List.set_cons_zero]))
        | ((with_reducible refine g_at (d := 16) ?_); refine wpl_bin rfl rfl (by exact run_and32 _ _ _ m 127 _) ?_; try (conv in (Act.put _ _ _) => simp only [Act.put, List.setIfInBounds_toArray, List.set_cons_succ, List.set_cons_zero]))
        | ((with_reducible refine g_at (d := 17) ?_); refine wpl_conv rfl (by exact conv_wb Try.underlying89 Try.underlying5 _ _) ?_; try (conv in (Act.put _ _ _) => simp only [Act.put, List.setIfInBounds_toArray, List.set_cons_succ, List.set_cons_zero]))
        | ((with_reducible refine g_at (d := 18) ?_); refine wpl_bin rfl rfl (by exact run_or8 _ _ _ _ 128 _) ?_; try (conv in (Act.put _ _ _) => simp only [Act.put, List.setIfInBounds_toArray, List.set_cons_succ, List.set_cons_zero]))
        | ((with_reducible refine g_at (d := 19) ?_); refine wpl_buildSlice (vs := [bU ((m &&& 127).toUInt8 ||| 128)]) Try.underlying22 hi5 hz5 hs5 rfl (xs := [(.tmp 18)]) rfl rfl rfl (by intro u hu; simp at hu; subst hu; rfl) (by omega) ?_; intro v19 w19 h19 hx19 ha19; try (conv in (Act.put _ _ _) => simp only [Act.put, List.setIfInBounds_toArray, List.set_cons_succ, List.set_cons_zero]))
        | ((with_reducible refine g_at (d := 20) ?_); refine wpl_append (v := u3) rfl rfl Try.underlying22 hi5 hz5 hs5 hb5 rfl (ho.ext hx19) h19.sl (bU_one [_]) (by first | omega | (simp <;> omega)) (by omega) (Nat.le_trans hx.size hx19.size) ?_; intro v20 w20 h20 hg20 ha20 hx20; try (conv in (Act.put _ _ _) => simp only [Act.put, List.setIfInBounds_toArray, List.set_cons_succ, List.set_cons_zero]))
        | ((with_reducible refine g_at (d := 13) ?_); refine wpl_bin rfl rfl (by exact run_shr32 _ _ _ m .u64 7 (by decide) _) ?_; try (conv in (Act.put _ _ _) => simp only [Act.put, List.setIfInBounds_toArray, List.set_cons_succ, List.set_cons_zero]))
        | ((with_reducible refine g_at (d := 6) ?_); refine wpl_conv rfl (by exact conv_wb Try.underlying89 Try.underlying5 _ _) ?_; try (conv in (Act.put _ _ _) => simp only [Act.put, List.setIfInBounds_toArray, List.set_cons_succ, List.set_cons_zero])))
      go_roundw
      case rel =>
        have hm := HZ.out
        obtain ⟨k, rfl⟩ : ∃ k', k = k' + 1 := ⟨k - 1, by
          cases k with
          | zero => exact absurd (UInt32.toNat_inj.1 (show m.toNat = 0 by simpa using hmk)) hm
          | succ k => rfl⟩
        refine ⟨k, m >>> UInt32.ofNat 7, xs ++ [(m &&& 127).toUInt8 ||| 128], rfl, by omega, ?_, by rw [List.length_append, List.length_singleton]; omega, by rw [List.map_append]; exact h20, (hx.tr hx19).trans hx20, Lib.hid ?_⟩
        · rw [shr7, Nat.div_lt_iff_lt_mul (by decide)]; rwa [Nat.pow_succ] at hmk
        · have h := hxs.out
          rw [grpT, if_neg hm, shr7'] at h
          rw [List.append_assoc]; exact h
      case measure =>
        show (((m >>> UInt32.ofNat 7).toNat : Nat) : Int).toNat < ((m.toNat : Nat) : Int).toNat
        rw [shr7, Int.toNat_natCast, Int.toNat_natCast]
        have : m.toNat ≠ 0 := fun h => HZ.out (UInt32.toNat_inj.1 h)
        omega
def group_ct : Ct := fun args H => match args with
  | [.c (.s (.u32 x))] => some ([], .c (.wh H.length), [⟨.row, 5, 1, (grp x).length, .b (grp x)⟩])
  | _ => none
theorem group_h : FnOk Try.prog Tr 65 group_ct := by
  refine ⟨fun args H g av objs hF hg ρ w vals hG hp ha => ?_, _, Try.func65, by kernel_rfl, by kernel_rfl⟩
  unfold group_ct at hF
  split at hF
  · rename_i x
    simp only [Option.some.injEq, Prod.mk.injEq] at hF
    obtain ⟨rfl, rfl, rfl⟩ := hF
    obtain ⟨v, vals, rfl, k, ha⟩ := F2.inv ha
    obtain rfl := F2.inv0 ha
    have e : v = w32 x := k
    rw [e]
    exact calls_mono (group_c w x) fun v w' ⟨hx, hv⟩ => ⟨hx, left_row hv (fun _ => csR_b.2 rfl) (by simp)⟩
  · cases hF
end Go.Proofs.Ytliilihbnhdemaa
