import Derived.Test.YtpinmaodpfoinaaWd
set_option linter.unusedVariables false
set_option linter.unusedSimpArgs false
namespace Go.Ch
open Go.RowKit
section words
variable {P : Program} {w : World}
theorem run_add64 (t : TypeId) (ex ey : Operand) (x y : UInt64) (w : World) : binRun P .add t ex ey (w64 x) (w64 y) w = .ok (w64 (x + y)) w := by
  simp only [binRun, w64, Sem.run_bind, guard_int, Result.andThen_ok]
  simp only [binOp, if_neg (show ¬ (IntKind.u64 ≠ IntKind.u64) by simp), Op.intArith, Sem.run_pure]
  congr 2
  all_goals (rw [wrap64z, UInt64.toNat_add]; omega)
theorem run_sub64 (t : TypeId) (ex ey : Operand) (x y : UInt64) (w : World) : binRun P .sub t ex ey (w64 x) (w64 y) w = .ok (w64 (x - y)) w := by
  simp only [binRun, w64, Sem.run_bind, guard_int, Result.andThen_ok]
  simp only [binOp, if_neg (show ¬ (IntKind.u64 ≠ IntKind.u64) by simp), Op.intArith, Sem.run_pure]
  congr 2
  have hx := lt64 x
  have hy := lt64 y
  rw [wrap64z, UInt64.toNat_sub]
  omega
theorem run_mul64 (t : TypeId) (ex ey : Operand) (x y : UInt64) (w : World) : binRun P .mul t ex ey (w64 x) (w64 y) w = .ok (w64 (x * y)) w := by
  simp only [binRun, w64, Sem.run_bind, guard_int, Result.andThen_ok]
  simp only [binOp, if_neg (show ¬ (IntKind.u64 ≠ IntKind.u64) by simp), Op.intArith, Sem.run_pure]
  congr 2
  all_goals (rw [wrap64z, UInt64.toNat_mul]; omega)

theorem ofInt64 (x : UInt64) : BitVec.ofInt 64 (x.toNat : Int) = x.toBitVec := by
  rw [BitVec.ofInt_natCast]
  apply BitVec.eq_of_toNat_eq
  simp
theorem back64 (r : BitVec 64) : IntKind.u64.wrap (r.toNat : Int) = (r.toNat : Int) := by
  have := r.isLt
  rw [wrap64n]; omega
theorem run_xor64 (t : TypeId) (ex ey : Operand) (x y : UInt64) (w : World) : binRun P .xor t ex ey (w64 x) (w64 y) w = .ok (w64 (x ^^^ y)) w := by
  simp only [binRun, w64, Sem.run_bind, guard_int, Result.andThen_ok]
  simp only [binOp, if_neg (show ¬ (IntKind.u64 ≠ IntKind.u64) by simp), Op.intBits, Sem.run_pure]
  show Result.ok (Value.int .u64 (IntKind.u64.wrap ((BitVec.ofInt 64 (x.toNat : Int) ^^^ BitVec.ofInt 64 (y.toNat : Int)).toNat : Int))) w = _
  rw [ofInt64, ofInt64, back64]
  rfl
theorem run_and64 (t : TypeId) (ex ey : Operand) (x y : UInt64) (w : World) : binRun P .and t ex ey (w64 x) (w64 y) w = .ok (w64 (x &&& y)) w := by
  simp only [binRun, w64, Sem.run_bind, guard_int, Result.andThen_ok]
  simp only [binOp, if_neg (show ¬ (IntKind.u64 ≠ IntKind.u64) by simp), Op.intBits, Sem.run_pure]
  show Result.ok (Value.int .u64 (IntKind.u64.wrap ((BitVec.ofInt 64 (x.toNat : Int) &&& BitVec.ofInt 64 (y.toNat : Int)).toNat : Int))) w = _
  rw [ofInt64, ofInt64, back64]
  rfl
theorem run_or64 (t : TypeId) (ex ey : Operand) (x y : UInt64) (w : World) : binRun P .or t ex ey (w64 x) (w64 y) w = .ok (w64 (x ||| y)) w := by
  simp only [binRun, w64, Sem.run_bind, guard_int, Result.andThen_ok]
  simp only [binOp, if_neg (show ¬ (IntKind.u64 ≠ IntKind.u64) by simp), Op.intBits, Sem.run_pure]
  show Result.ok (Value.int .u64 (IntKind.u64.wrap ((BitVec.ofInt 64 (x.toNat : Int) ||| BitVec.ofInt 64 (y.toNat : Int)).toNat : Int))) w = _
  rw [ofInt64, ofInt64, back64]
  rfl
theorem run_not64 (x : UInt64) (w : World) : (Op.unary .xor (w64 x)).run P w = .ok (w64 (~~~x)) w := by
  show Result.ok (Value.int .u64 (IntKind.u64.wrap ((BitVec.ofInt 64 (18446744073709551615 : Int) ^^^ BitVec.ofInt 64 (x.toNat : Int)).toNat : Int))) w = _
  rw [ofInt64, back64]
  unfold w64
  have h1 : BitVec.ofInt 64 18446744073709551615 = BitVec.allOnes 64 := by decide
  have h2 : (BitVec.ofInt 64 18446744073709551615 ^^^ x.toBitVec).toNat = (~~~x.toBitVec).toNat := by rw [h1, BitVec.allOnes_xor]
  rw [h2]
  rfl
theorem run_quo64 (t : TypeId) (ex ey : Operand) (x y : UInt64) (hy : y ≠ 0) (w : World) : binRun P .quo t ex ey (w64 x) (w64 y) w = .ok (w64 (x / y)) w := by
  have hy' : ¬ ((y.toNat : Int) = 0) := fun e => hy (UInt64.toNat_inj.1 (by simp; omega))
  simp only [binRun, w64, Sem.run_bind, guard_int, Result.andThen_ok]
  simp only [binOp, if_neg (show ¬ (IntKind.u64 ≠ IntKind.u64) by simp), Op.intDiv, if_neg hy', Sem.run_pure]
  congr 2
  all_goals (rw [← Int.ofNat_tdiv, wrap64n, UInt64.toNat_div]; have := lt64 x; have := Nat.div_le_self x.toNat y.toNat; rw [Nat.mod_eq_of_lt (by omega)])
theorem run_rem64 (t : TypeId) (ex ey : Operand) (x y : UInt64) (hy : y ≠ 0) (w : World) : binRun P .rem t ex ey (w64 x) (w64 y) w = .ok (w64 (x % y)) w := by
  have hy' : ¬ ((y.toNat : Int) = 0) := fun e => hy (UInt64.toNat_inj.1 (by simp; omega))
  simp only [binRun, w64, Sem.run_bind, guard_int, Result.andThen_ok]
  simp only [binOp, if_neg (show ¬ (IntKind.u64 ≠ IntKind.u64) by simp), Op.intDiv, if_neg hy', Sem.run_pure]
  congr 2
  all_goals (rw [← Int.ofNat_tmod, UInt64.toNat_mod])
/-- shifts by a count below the width -/
theorem run_shl64 (t : TypeId) (ex ey : Operand) (x : UInt64) (k : IntKind) (n : Nat) (hn : n < 64) (w : World) : binRun P .shl t ex ey (w64 x) (.int k (n : Int)) w = .ok (w64 (x <<< UInt64.ofNat n)) w := by
  simp only [binRun, w64, Sem.run_bind, guard_int, Result.andThen_ok]
  have h1 : min n 64 = n := by omega
  simp only [binOp, Op.shift, if_neg (show ¬ ((n : Int) < 0) by omega), Sem.run_pure, Int.toNat_natCast, show IntKind.u64.bits = 64 from rfl, h1]
  congr 2
  have e : ((x.toNat : Int) * 2 ^ n) = ((x.toNat * 2 ^ n : Nat) : Int) := by simp
  have h2 : (UInt64.ofNat n).toNat = n := by simp; omega
  rw [e, wrap64n, UInt64.toNat_shiftLeft, h2, Nat.shiftLeft_eq, Nat.mod_eq_of_lt hn]
theorem run_shr64 (t : TypeId) (ex ey : Operand) (x : UInt64) (k : IntKind) (n : Nat) (hn : n < 64) (w : World) : binRun P .shr t ex ey (w64 x) (.int k (n : Int)) w = .ok (w64 (x >>> UInt64.ofNat n)) w := by
  simp only [binRun, w64, Sem.run_bind, guard_int, Result.andThen_ok]
  have h1 : min n 64 = n := by omega
  simp only [binOp, Op.shift, if_neg (show ¬ ((n : Int) < 0) by omega), Sem.run_pure, Int.toNat_natCast, show IntKind.u64.bits = 64 from rfl, h1]
  congr 2
  have e : ((2 : Int) ^ n) = ((2 ^ n : Nat) : Int) := by simp
  have h2 : (UInt64.ofNat n).toNat = n := by simp; omega
  rw [e, UInt64.toNat_shiftRight, h2, Nat.mod_eq_of_lt hn, Nat.shiftRight_eq_div_pow]
  rw [Int.fdiv_eq_ediv_of_nonneg _ (Int.natCast_nonneg _)]
  rfl
theorem run_eq64 (t : TypeId) (ex ey : Operand) (x y : UInt64) (w : World) : binRun P .eql t ex ey (w64 x) (w64 y) w = .ok (.bool (x == y)) w := by
  simp only [binRun, w64, Sem.run_bind, guard_int, Result.andThen_ok]
  simp only [binOp, if_neg (show ¬ (IntKind.u64 ≠ IntKind.u64) by simp), Op.intCmp, Sem.run_pure]
  congr 2
  by_cases h : x = y
  · subst h; simp
  · have : ¬ ((x.toNat : Int) = y.toNat) := fun e => h (UInt64.toNat_inj.1 (by omega))
    rw [beq_eq_false_iff_ne.2 h, beq_eq_false_iff_ne.2 this]

theorem run_ne64 (t : TypeId) (ex ey : Operand) (x y : UInt64) (w : World) : binRun P .neq t ex ey (w64 x) (w64 y) w = .ok (.bool (x != y)) w := by
  simp only [binRun, w64, Sem.run_bind, guard_int, Result.andThen_ok]
  simp only [binOp, if_neg (show ¬ (IntKind.u64 ≠ IntKind.u64) by simp), Op.intCmp, Sem.run_pure]
  congr 2
  by_cases h : x = y
  · subst h; simp
  · have : ¬ ((x.toNat : Int) = y.toNat) := fun e => h (UInt64.toNat_inj.1 (by omega))
    rw [bne_iff_ne.2 h, bne_iff_ne.2 this]
theorem run_ltx64 (t : TypeId) (ex ey : Operand) (x y : UInt64) {b : Bool} (h : decide (x < y) = b) (w : World) : binRun P .lss t ex ey (w64 x) (w64 y) w = .ok (.bool b) w := by
  simp only [binRun, w64, Sem.run_bind, guard_int, Result.andThen_ok]
  simp only [binOp, if_neg (show ¬ (IntKind.u64 ≠ IntKind.u64) by simp), Op.intCmp, Sem.run_pure]
  congr 2
  rw [← h]
  have e : ((x.toNat : Int) < (y.toNat : Int)) ↔ x < y := by rw [UInt64.lt_iff_toNat_lt]; omega
  simp [e]
theorem run_eqx64 (t : TypeId) (ex ey : Operand) (x y : UInt64) {b : Bool} (h : (x == y) = b) (w : World) : binRun P .eql t ex ey (w64 x) (w64 y) w = .ok (.bool b) w := by
  rw [← h]; exact run_eq64 t ex ey x y w
theorem conv_64_32 {s t : TypeId} {ds : TypeDesc} (hs : P.underlying s = some ds) (ht : P.underlying t = some (.int .u32)) (x : UInt64) (w : World) : (convert s t (w64 x)).run P w = .ok (w32 x.toUInt32) w := by
  unfold w64 w32 convert
  rw [Sem.run_bind, run_underlying hs w, Result.andThen_ok, Sem.run_bind, run_underlying ht w, Result.andThen_ok]
  have e : IntKind.u32.wrap (x.toNat : Int) = ((x.toUInt32).toNat : Int) := by rw [wrap32n]; simp
  cases ds <;> simp [Conv.intToInt, e]
theorem w64_one (l : List UInt64) : ∀ u ∈ l.map w64, u.oneCell' = true := by
  intro u hu; obtain ⟨x, _, rfl⟩ := List.mem_map.1 hu; rfl
theorem set_w64 (ws : List UInt64) (k : Nat) (x : UInt64) : ((ws.map w64).toArray).setIfInBounds k (w64 x) = ((ws.set k x).map w64).toArray := by
  simp [List.map_set]
theorem at_w64 {ws : List UInt64} {k : Nat} (h : k < ws.length) : (ws.map w64).toArray[k]? = some (w64 (ws.getD k 0)) := by
  simp [List.getElem?_eq_getElem h]
theorem at_w64l {ws : List UInt64} {k : Nat} (h : k < ws.length) : (ws.map w64)[k]? = some (w64 (ws.getD k 0)) := by
  simp [List.getElem?_eq_getElem h]
end words
end Go.Ch
