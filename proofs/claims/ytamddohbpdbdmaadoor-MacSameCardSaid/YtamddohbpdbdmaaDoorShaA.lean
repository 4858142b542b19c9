import Derived.Test.YtamddohbpdbdmaaDoorShaP
import Derived.Test.YtamddohbpdbdmaaDoorProg
set_option linter.unusedVariables false
set_option linter.unusedSimpArgs false
namespace Go.Proofs.YtamddohbpdbdmaaDoor
open Go.RowKit Go.Ch

theorem infoU8 : (Tryd.prog.info? 5).map (fun i => (i.zero, i.size, i.bytes)) = some (some (.int .u8 0), 1, 1) := by kernel_rfl
theorem infoU32 : (Tryd.prog.info? 28).map (fun i => (i.zero, i.size, i.bytes)) = some (some (.int .u32 0), 1, 4) := by kernel_rfl
theorem infoW8 : (Tryd.prog.info? 29).map (fun i => (i.zero, i.size, i.bytes)) = some (some (.agg ((zeros 8).map w32).toArray), 8, 32) := by kernel_rfl
theorem infoW64 : (Tryd.prog.info? 62).map (fun i => (i.zero, i.size, i.bytes)) = some (some (.agg ((zeros 64).map w32).toArray), 64, 256) := by kernel_rfl
theorem infoB64 : (Tryd.prog.info? 54).map (fun i => (i.zero, i.size, i.bytes)) = some (some (.agg ((List.replicate 64 (0 : UInt8)).map bU).toArray), 64, 64) := by kernel_rfl

theorem run_eq32b {P : Program} (t : TypeId) (ex ey : Operand) (x y : UInt32) {b : Bool} (h : (x == y) = b) (w : World) : binRun P .eql t ex ey (w32 x) (w32 y) w = .ok (.bool b) w := by
  rw [← h]; exact run_eq32 t ex ey x y w
theorem run_remi {P : Program} (t : TypeId) (ex ey : Operand) (k : IntKind) (a b : Int) (h : 0 ≤ a) (hb : 0 < b) (w : World) : binRun P .rem t ex ey (.int k a) (.int k b) w = .ok (.int k (a % b)) w := by
  have hb' : ¬ (b = 0) := by omega
  simp only [binRun, Sem.run_bind, guard_int, Result.andThen_ok]
  simp only [binOp, if_neg (show ¬ (k ≠ k) by simp), Op.intDiv, if_neg hb', Sem.run_pure]
  rw [Int.tmod_eq_emod_of_nonneg h]

theorem run_negand (n : Nat) (h0 : 0 < n) (hn : n < 32) (t : TypeId) (ex ey : Operand) (w : World) : binRun Tryd.prog .and t ex ey (.int .u64 (IntKind.u64.wrap (-(n : Int)))) (.int .u64 31) w = .ok (.int .u64 ((32 - n : Nat) : Int)) w := by
  rw [show IntKind.u64.wrap (-(n : Int)) = 18446744073709551616 - (n : Int) by rw [wrap64z]; omega]
  simp only [binRun, Sem.run_bind, guard_int, Result.andThen_ok]
  simp only [binOp, if_neg (show ¬ (IntKind.u64 ≠ IntKind.u64) by simp), Op.intBits, Sem.run_pure]
  show Result.ok (Value.int .u64 (IntKind.u64.wrap ((BitVec.ofInt 64 (18446744073709551616 - (n : Int)) &&& BitVec.ofInt 64 31).toNat : Int))) w = _
  have e1 : (BitVec.ofInt 64 (18446744073709551616 - (n : Int))).toNat = 18446744073709551616 - n := by
    rw [show (18446744073709551616 - (n : Int)) = ((18446744073709551616 - n : Nat) : Int) by omega, BitVec.ofInt_natCast, BitVec.toNat_ofNat]
    omega
  have e2 : (BitVec.ofInt 64 31).toNat = 2 ^ 5 - 1 := by decide
  rw [BitVec.toNat_and, e1, e2, Nat.and_two_pow_sub_one_eq_mod, wrap64n]
  congr 3
  omega

set_option maxHeartbeats 400000 in
theorem rotl_c (w : World) (x : UInt32) (n : Nat) (h0 : 0 < n) (hn : n < 32) :
    Calls Tryd.prog 46 #[w32 x, .int .i64 (-(n : Int))] w (Ret fun v w' => w' = w ∧ v = w32 (rotr x n)) := by
  go_enter Tryd.func46, Tryd.ntmps46
  go_wp2_with (first
    | ((with_reducible refine g_at (d := 8) ?_); refine wpl_bin rfl rfl (by exact run_negand n h0 hn _ _ _ _) ?_; try (conv in (Act.put _ _ _) => simp only [Act.put, List.setIfInBounds_toArray, List.set_cons_succ, List.set_cons_zero]))
    | ((with_reducible refine g_at (d := 11) ?_); refine wpl_bin rfl rfl (by exact run_shl32 _ _ _ _ _ (32 - n) (by omega) _) ?_; try (conv in (Act.put _ _ _) => simp only [Act.put, List.setIfInBounds_toArray, List.set_cons_succ, List.set_cons_zero]))
    | ((with_reducible refine g_at (d := 15) ?_); refine wpl_bin rfl rfl (by rw [show (32 - ((32 - n : Nat) : Int)) = (n : Int) by omega]; exact run_shr32 _ _ _ _ _ n hn _) ?_; try (conv in (Act.put _ _ _) => simp only [Act.put, List.setIfInBounds_toArray, List.set_cons_succ, List.set_cons_zero]))
    | ((with_reducible refine g_at (d := 14) ?_); refine wpl_bin rfl rfl (by exact Go.Ch.run_sub64 _ _ _ 32 _ _) ?_; try (conv in (Act.put _ _ _) => simp only [Act.put, List.setIfInBounds_toArray, List.set_cons_succ, List.set_cons_zero]))
    | ((with_reducible refine g_at (d := 16) ?_); refine wpl_bin rfl rfl (by exact Go.Ch.run_or32 _ _ _ _ _ _) ?_; try (conv in (Act.put _ _ _) => simp only [Act.put, List.setIfInBounds_toArray, List.set_cons_succ, List.set_cons_zero])))
  go_ret
  exact ⟨_, rfl, rfl, rfl⟩

theorem roll_c (w : World) (x : UInt32) (n : Nat) (h0 : 0 < n) (hn : n < 32) :
    Calls Tryd.prog 41 #[w32 x, .int .i64 (n : Int)] w (Ret fun v w' => w' = w ∧ v = w32 (rotr x n)) := by
  go_enter Tryd.func41, Tryd.ntmps41
  go_wp2_with (first
    | ((with_reducible refine g_at (d := 8) ?_); refine wpl_call Tryd.func46 (by kernel_rfl) (by kernel_rfl) rfl (rotl_c _ x n h0 hn) ?_; rintro v8 w8 ⟨rfl, rfl⟩; try (conv in (Act.put _ _ _) => simp only [Act.put, List.setIfInBounds_toArray, List.set_cons_succ, List.set_cons_zero])))
  go_ret
  exact ⟨_, rfl, rfl, rfl⟩

set_option maxHeartbeats 400000 in
theorem bit_c (w : World) (x : UInt32) (i : Int) (h0 : -32 ≤ i) (hi : i < 32) :
    Calls Tryd.prog 47 #[w32 x, .int .i64 i] w (Ret fun v w' => w' = w ∧ v = w32 (UInt32.ofNat (bitI x i))) := by
  by_cases h : i < 0
  · have hb : Hid (bitI x i = 0) := Lib.hid (by unfold bitI; rw [if_pos h])
    go_enter Tryd.func47, Tryd.ntmps47
    go_wp2
    go_ret
    exact ⟨_, rfl, rfl, by rw [hb.out]; rfl⟩
  · obtain ⟨k, rfl⟩ : ∃ k : Nat, i = k := ⟨i.toNat, by omega⟩
    go_enter Tryd.func47, Tryd.ntmps47
    go_wp2_with (first
      | ((with_reducible refine g_at (d := 10) ?_); refine wpl_bin rfl rfl (by rw [show (31 - (k : Int)) = ((31 - k : Nat) : Int) by omega]; exact run_shr32 _ _ _ _ _ (31 - k) (by omega) _) ?_; try (conv in (Act.put _ _ _) => simp only [Act.put, List.setIfInBounds_toArray, List.set_cons_succ, List.set_cons_zero]))
      | ((with_reducible refine g_at (d := 11) ?_); refine wpl_bin rfl rfl (by exact Go.Ch.run_and32 _ _ _ _ 1 _) ?_; try (conv in (Act.put _ _ _) => simp only [Act.put, List.setIfInBounds_toArray, List.set_cons_succ, List.set_cons_zero])))
    go_ret
    exact ⟨_, rfl, rfl, by rw [bitI_nat, ← shr_and_one x k (by omega)]; rfl⟩

set_option maxHeartbeats 1000000 in
theorem majority_c (w : World) (x y z : UInt32) :
    Calls Tryd.prog 44 #[w32 x, w32 y, w32 z] w (Ret fun v w' => w' = w ∧ v = w32 (maj x y z)) := by
  go_enter Tryd.func44, Tryd.ntmps44
  go_wp2_with fail
  go_loopw [7, 8] (fun o i wr => ∃ k : Nat, k ≤ 32 ∧ i = .int .i64 k ∧ o = w32 (UInt32.ofNat (top (maj x y z) k)) ∧ wr = w) (fun _ i _ => 32 - (intOf i).toNat)
  case atStart => exact ⟨0, by omega, rfl, by rw [top_zero]; rfl, by first | rfl | trivial⟩
  case round =>
    obtain ⟨k, hk, rfl, rfl, rfl⟩ := hrel
    by_cases hlt : k < 32
    · have hb1 := bitI_lt x k
      have hb2 := bitI_lt y k
      have hb3 := bitI_lt z k
      go_wp2_with (first
        | ((with_reducible refine g_at (d := 17) ?_); refine wpl_call Tryd.func47 (by kernel_rfl) (by kernel_rfl) rfl (bit_c _ x (k : Int) (by omega) (by omega)) ?_; rintro v17 w17 ⟨rfl, rfl⟩; try (conv in (Act.put _ _ _) => simp only [Act.put, List.setIfInBounds_toArray, List.set_cons_succ, List.set_cons_zero]))
        | ((with_reducible refine g_at (d := 20) ?_); refine wpl_call Tryd.func47 (by kernel_rfl) (by kernel_rfl) rfl (bit_c _ y (k : Int) (by omega) (by omega)) ?_; rintro v20 w20 ⟨rfl, rfl⟩; try (conv in (Act.put _ _ _) => simp only [Act.put, List.setIfInBounds_toArray, List.set_cons_succ, List.set_cons_zero]))
        | ((with_reducible refine g_at (d := 24) ?_); refine wpl_call Tryd.func47 (by kernel_rfl) (by kernel_rfl) rfl (bit_c _ z (k : Int) (by omega) (by omega)) ?_; rintro v24 w24 ⟨rfl, rfl⟩; try (conv in (Act.put _ _ _) => simp only [Act.put, List.setIfInBounds_toArray, List.set_cons_succ, List.set_cons_zero]))
        | ((with_reducible refine g_at (d := 14) ?_); refine wpl_bin rfl rfl (by exact Go.Ch.run_mul32 _ _ _ _ 2 _) ?_; try (conv in (Act.put _ _ _) => simp only [Act.put, List.setIfInBounds_toArray, List.set_cons_succ, List.set_cons_zero]))
        | ((with_reducible refine g_at (d := 21) ?_); refine wpl_bin rfl rfl (by exact Go.Ch.run_add32 _ _ _ _ _ _) ?_; try (conv in (Act.put _ _ _) => simp only [Act.put, List.setIfInBounds_toArray, List.set_cons_succ, List.set_cons_zero]))
        | ((with_reducible refine g_at (d := 25) ?_); refine wpl_bin rfl rfl (by exact Go.Ch.run_add32 _ _ _ _ _ _) ?_; try (conv in (Act.put _ _ _) => simp only [Act.put, List.setIfInBounds_toArray, List.set_cons_succ, List.set_cons_zero]))
        | ((with_reducible refine g_at (d := 26) ?_); refine wpl_bin rfl rfl (by exact Go.Ch.run_quo32 _ _ _ _ 2 (by decide) _) ?_; try (conv in (Act.put _ _ _) => simp only [Act.put, List.setIfInBounds_toArray, List.set_cons_succ, List.set_cons_zero]))
        | ((with_reducible refine g_at (d := 27) ?_); refine wpl_bin rfl rfl (by exact Go.Ch.run_add32 _ _ _ _ _ _) ?_; try (conv in (Act.put _ _ _) => simp only [Act.put, List.setIfInBounds_toArray, List.set_cons_succ, List.set_cons_zero])))
      go_roundw
      case rel =>
        refine ⟨k + 1, by omega, by go_num, ?_, trivial⟩
        congr 1
        refine build_step _ k hlt _ ?_
        rw [three_half hb1 hb2 hb3, maj_bit, bitI_nat, bitI_nat, bitI_nat]
      case measure => simp [intOf]; omega
    · obtain rfl : k = 32 := by omega
      go_wp2
      go_ret
      exact ⟨_, rfl, rfl, by rw [top_done]; rfl⟩

set_option maxHeartbeats 1000000 in
theorem choice_c (w : World) (x y z : UInt32) :
    Calls Tryd.prog 43 #[w32 x, w32 y, w32 z] w (Ret fun v w' => w' = w ∧ v = w32 (ch x y z)) := by
  go_enter Tryd.func43, Tryd.ntmps43
  go_wp2_with fail
  go_loopw [7, 8] (fun o i wr => ∃ k : Nat, k ≤ 32 ∧ i = .int .i64 k ∧ o = w32 (UInt32.ofNat (top (ch x y z) k)) ∧ wr = w) (fun _ i _ => 32 - (intOf i).toNat)
  case atStart => exact ⟨0, by omega, rfl, by rw [top_zero]; rfl, by first | rfl | trivial⟩
  case round =>
    obtain ⟨k, hk, rfl, rfl, rfl⟩ := hrel
    by_cases hlt : k < 32
    · have hb1 := bitI_lt x k
      have hb2 := bitI_lt y k
      have hb3 := bitI_lt z k
      by_cases he : hiBit x k = 1
      · have hd : (UInt32.ofNat (bitI x (k : Int)) == 1) = true := by rw [bitI_nat, he]; rfl
        have HE := Lib.hid he
        clear he
        go_wp2_with (first
          | ((with_reducible refine g_at (d := 16) ?_); refine wpl_call Tryd.func47 (by kernel_rfl) (by kernel_rfl) rfl (bit_c _ z (k : Int) (by omega) (by omega)) ?_; rintro v16 w16 ⟨rfl, rfl⟩; try (conv in (Act.put _ _ _) => simp only [Act.put, List.setIfInBounds_toArray, List.set_cons_succ, List.set_cons_zero]))
          | ((with_reducible refine g_at (d := 19) ?_); refine wpl_call Tryd.func47 (by kernel_rfl) (by kernel_rfl) rfl (bit_c _ x (k : Int) (by omega) (by omega)) ?_; rintro v19 w19 ⟨rfl, rfl⟩; try (conv in (Act.put _ _ _) => simp only [Act.put, List.setIfInBounds_toArray, List.set_cons_succ, List.set_cons_zero]))
          | ((with_reducible refine g_at (d := 20) ?_); refine wpl_bin rfl rfl (by exact run_eq32b _ _ _ _ 1 hd _) ?_; try (conv in (Act.put _ _ _) => simp only [Act.put, List.setIfInBounds_toArray, List.set_cons_succ, List.set_cons_zero]))
          | ((with_reducible refine g_at (d := 23) ?_); refine wpl_call Tryd.func47 (by kernel_rfl) (by kernel_rfl) rfl (bit_c _ y (k : Int) (by omega) (by omega)) ?_; rintro v23 w23 ⟨rfl, rfl⟩; try (conv in (Act.put _ _ _) => simp only [Act.put, List.setIfInBounds_toArray, List.set_cons_succ, List.set_cons_zero]))
          | ((with_reducible refine g_at (d := 25) ?_); refine wpl_bin rfl rfl (by exact Go.Ch.run_mul32 _ _ _ _ 2 _) ?_; try (conv in (Act.put _ _ _) => simp only [Act.put, List.setIfInBounds_toArray, List.set_cons_succ, List.set_cons_zero]))
          | ((with_reducible refine g_at (d := 27) ?_); refine wpl_bin rfl rfl (by exact Go.Ch.run_add32 _ _ _ _ _ _) ?_; try (conv in (Act.put _ _ _) => simp only [Act.put, List.setIfInBounds_toArray, List.set_cons_succ, List.set_cons_zero])))
        go_roundw
        case rel =>
          refine ⟨k + 1, by omega, by go_num, ?_, trivial⟩
          congr 1
          refine build_step _ k hlt _ ?_
          rw [ch_bit _ _ _ _ hlt, if_pos HE.out, bitI_nat]
          exact ofNat_toNat32 (by have := hiBit_lt y k; omega)
        case measure => simp [intOf]; omega
      · have hd : (UInt32.ofNat (bitI x (k : Int)) == 1) = false := by
          have h2 := hiBit_lt x k
          rw [bitI_nat, show hiBit x k = 0 by omega]; rfl
        have HE := Lib.hid he
        clear he
        go_wp2_with (first
          | ((with_reducible refine g_at (d := 16) ?_); refine wpl_call Tryd.func47 (by kernel_rfl) (by kernel_rfl) rfl (bit_c _ z (k : Int) (by omega) (by omega)) ?_; rintro v16 w16 ⟨rfl, rfl⟩; try (conv in (Act.put _ _ _) => simp only [Act.put, List.setIfInBounds_toArray, List.set_cons_succ, List.set_cons_zero]))
          | ((with_reducible refine g_at (d := 19) ?_); refine wpl_call Tryd.func47 (by kernel_rfl) (by kernel_rfl) rfl (bit_c _ x (k : Int) (by omega) (by omega)) ?_; rintro v19 w19 ⟨rfl, rfl⟩; try (conv in (Act.put _ _ _) => simp only [Act.put, List.setIfInBounds_toArray, List.set_cons_succ, List.set_cons_zero]))
          | ((with_reducible refine g_at (d := 20) ?_); refine wpl_bin rfl rfl (by exact run_eq32b _ _ _ _ 1 hd _) ?_; try (conv in (Act.put _ _ _) => simp only [Act.put, List.setIfInBounds_toArray, List.set_cons_succ, List.set_cons_zero]))
          | ((with_reducible refine g_at (d := 25) ?_); refine wpl_bin rfl rfl (by exact Go.Ch.run_mul32 _ _ _ _ 2 _) ?_; try (conv in (Act.put _ _ _) => simp only [Act.put, List.setIfInBounds_toArray, List.set_cons_succ, List.set_cons_zero]))
          | ((with_reducible refine g_at (d := 27) ?_); refine wpl_bin rfl rfl (by exact Go.Ch.run_add32 _ _ _ _ _ _) ?_; try (conv in (Act.put _ _ _) => simp only [Act.put, List.setIfInBounds_toArray, List.set_cons_succ, List.set_cons_zero])))
        go_roundw
        case rel =>
          refine ⟨k + 1, by omega, by go_num, ?_, trivial⟩
          congr 1
          refine build_step _ k hlt _ ?_
          rw [ch_bit _ _ _ _ hlt, if_neg HE.out, bitI_nat]
          exact ofNat_toNat32 (by have := hiBit_lt z k; omega)
        case measure => simp [intOf]; omega
    · obtain rfl : k = 32 := by omega
      go_wp2
      go_ret
      exact ⟨_, rfl, rfl, by rw [top_done]; rfl⟩

set_option maxHeartbeats 1000000 in
theorem mixed_c (w : World) (x : UInt32) (a b c : Nat) (push : Bool) (ha0 : 0 < a) (ha : a < 32) (hb0 : 0 < b) (hb : b < 32) (hc0 : 0 < c) (hc : c < 32) :
    Calls Tryd.prog 42 #[w32 x, .int .i64 a, .int .i64 b, .int .i64 c, .bool push] w (Ret fun v w' => w' = w ∧ v = w32 (mixZ x a b c push)) := by
  generalize hz : mixZ x a b c push = z
  have HZ := Lib.hid hz
  clear hz
  cases push
  all_goals
    go_enter Tryd.func42, Tryd.ntmps42
    go_wp2_with fail
    go_loopw [11, 12] (fun o i wr => ∃ k : Nat, k ≤ 32 ∧ i = .int .i64 k ∧ o = w32 (UInt32.ofNat (top z k)) ∧ wr = w) (fun _ i _ => 32 - (intOf i).toNat)
    case atStart => exact ⟨0, by omega, rfl, by rw [top_zero]; rfl, by first | rfl | trivial⟩
    case round =>
      obtain ⟨k, hk, rfl, rfl, rfl⟩ := hrel
      by_cases hlt : k < 32
      · have hb1 := bitI_lt x (((k : Int) - a) % 32)
        have hb2 := bitI_lt x (((k : Int) - b) % 32)
        have hb3 := bitI_lt x (((k : Int) - c) % 32)
        have hb4 := bitI_lt x ((k : Int) - c)
        go_wp2_with (first
          | ((with_reducible refine g_at (d := 30) ?_); refine wpl_bin rfl rfl (by exact run_remi _ _ _ _ _ _ (by omega) (by omega) _) ?_; try (conv in (Act.put _ _ _) => simp only [Act.put, List.setIfInBounds_toArray, List.set_cons_succ, List.set_cons_zero]))
          | ((with_reducible refine g_at (d := 39) ?_); refine wpl_bin rfl rfl (by exact run_remi _ _ _ _ _ _ (by omega) (by omega) _) ?_; try (conv in (Act.put _ _ _) => simp only [Act.put, List.setIfInBounds_toArray, List.set_cons_succ, List.set_cons_zero]))
          | ((with_reducible refine g_at (d := 46) ?_); refine wpl_bin rfl rfl (by exact run_remi _ _ _ _ _ _ (by omega) (by omega) _) ?_; try (conv in (Act.put _ _ _) => simp only [Act.put, List.setIfInBounds_toArray, List.set_cons_succ, List.set_cons_zero]))
          | ((with_reducible refine g_at (d := 22) ?_); refine wpl_call Tryd.func47 (by kernel_rfl) (by kernel_rfl) rfl (bit_c _ x ((k : Int) - c) (by omega) (by omega)) ?_; rintro v22 w22 ⟨rfl, rfl⟩; try (conv in (Act.put _ _ _) => simp only [Act.put, List.setIfInBounds_toArray, List.set_cons_succ, List.set_cons_zero]))
          | ((with_reducible refine g_at (d := 31) ?_); refine wpl_call Tryd.func47 (by kernel_rfl) (by kernel_rfl) rfl (bit_c _ x (((k : Int) - c + 32) % 32) (by omega) (by omega)) ?_; rintro v31 w31 ⟨rfl, rfl⟩; try (conv in (Act.put _ _ _) => simp only [Act.put, List.setIfInBounds_toArray, List.set_cons_succ, List.set_cons_zero]))
          | ((with_reducible refine g_at (d := 40) ?_); refine wpl_call Tryd.func47 (by kernel_rfl) (by kernel_rfl) rfl (bit_c _ x (((k : Int) - a + 32) % 32) (by omega) (by omega)) ?_; rintro v40 w40 ⟨rfl, rfl⟩; try (conv in (Act.put _ _ _) => simp only [Act.put, List.setIfInBounds_toArray, List.set_cons_succ, List.set_cons_zero]))
          | ((with_reducible refine g_at (d := 47) ?_); refine wpl_call Tryd.func47 (by kernel_rfl) (by kernel_rfl) rfl (bit_c _ x (((k : Int) - b + 32) % 32) (by omega) (by omega)) ?_; rintro v47 w47 ⟨rfl, rfl⟩; try (conv in (Act.put _ _ _) => simp only [Act.put, List.setIfInBounds_toArray, List.set_cons_succ, List.set_cons_zero]))
          | ((with_reducible refine g_at (d := 33) ?_); refine wpl_bin rfl rfl (by exact Go.Ch.run_mul32 _ _ _ _ 2 _) ?_; try (conv in (Act.put _ _ _) => simp only [Act.put, List.setIfInBounds_toArray, List.set_cons_succ, List.set_cons_zero]))
          | ((with_reducible refine g_at (d := 48) ?_); refine wpl_bin rfl rfl (by exact Go.Ch.run_add32 _ _ _ _ _ _) ?_; try (conv in (Act.put _ _ _) => simp only [Act.put, List.setIfInBounds_toArray, List.set_cons_succ, List.set_cons_zero]))
          | ((with_reducible refine g_at (d := 50) ?_); refine wpl_bin rfl rfl (by exact Go.Ch.run_add32 _ _ _ _ _ _) ?_; try (conv in (Act.put _ _ _) => simp only [Act.put, List.setIfInBounds_toArray, List.set_cons_succ, List.set_cons_zero]))
          | ((with_reducible refine g_at (d := 51) ?_); refine wpl_bin rfl rfl (by exact Go.Ch.run_rem32 _ _ _ _ 2 (by decide) _) ?_; try (conv in (Act.put _ _ _) => simp only [Act.put, List.setIfInBounds_toArray, List.set_cons_succ, List.set_cons_zero]))
          | ((with_reducible refine g_at (d := 52) ?_); refine wpl_bin rfl rfl (by exact Go.Ch.run_add32 _ _ _ _ _ _) ?_; try (conv in (Act.put _ _ _) => simp only [Act.put, List.setIfInBounds_toArray, List.set_cons_succ, List.set_cons_zero])))
        go_roundw
        case rel =>
          refine ⟨k + 1, by omega, by go_num, ?_, trivial⟩
          congr 1
          refine build_step _ k hlt _ ?_
          rw [← HZ.out, mix_bit x a b c _ ha0 ha hb0 hb hc0 hc k hlt]
          simp only [Int.add_emod_right]
          first
            | exact three_bits hb1 hb2 hb3
            | exact three_bits hb1 hb2 hb4
        case measure => simp [intOf]; omega
      · obtain rfl : k = 32 := by omega
        go_wp2
        go_ret
        exact ⟨_, rfl, rfl, by rw [top_done]; rfl⟩
end Go.Proofs.YtamddohbpdbdmaaDoor
