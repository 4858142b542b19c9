import Derived.Test.YtpinmaodpfoinaaRg
import Derived.ChangeKeysEq
import Derived.Laws.BitsAllLaws
set_option linter.unusedVariables false
set_option linter.unusedSimpArgs false
namespace Go.Ch
open Go.RowKit

/-! ### words of 32 and 64 bits -/
def w32 (x : UInt32) : Value := .int .u32 (x.toNat : Int)
def w64 (x : UInt64) : Value := .int .u64 (x.toNat : Int)

section words
variable {P : Program} {w : World}

theorem wrap32n (n : Nat) : IntKind.u32.wrap (n : Int) = ((n % 4294967296 : Nat) : Int) := by
  rw [IntKind.wrap_u32]; omega
theorem wrap64n (n : Nat) : IntKind.u64.wrap (n : Int) = ((n % 18446744073709551616 : Nat) : Int) := by
  rw [IntKind.wrap_u64]; omega
theorem wrap32z (n : Int) : IntKind.u32.wrap n = n % 4294967296 := by rw [IntKind.wrap_u32]
theorem wrap64z (n : Int) : IntKind.u64.wrap n = n % 18446744073709551616 := by rw [IntKind.wrap_u64]
theorem lt32 (x : UInt32) : x.toNat < 4294967296 := x.toNat_lt
theorem lt64 (x : UInt64) : x.toNat < 18446744073709551616 := x.toNat_lt

/-- a test ahead of a comparison lets integers by -/
theorem guard_int (op : BinOp) (t : TypeId) (x y : Operand) (k k' : IntKind) (a b : Int) : (eqGuard op t x y (.int k a) (.int k' b)).run P w = .ok () w := by
  cases op <;> simp [eqGuard]

abbrev binRun (P : Program) (op : BinOp) (t : TypeId) (x y : Operand) (a b : Value) (w : World) : Result Value :=
  ((do eqGuard op t x y a b; binOp op t a b : Sem Value)).run P w

theorem run_add32 (t : TypeId) (ex ey : Operand) (x y : UInt32) (w : World) : binRun P .add t ex ey (w32 x) (w32 y) w = .ok (w32 (x + y)) w := by
  simp only [binRun, w32, Sem.run_bind, guard_int, Result.andThen_ok]
  simp only [binOp, if_neg (show ¬ (IntKind.u32 ≠ IntKind.u32) by simp), Op.intArith, Sem.run_pure]
  congr 2
  all_goals (rw [wrap32z, UInt32.toNat_add]; omega)
theorem run_sub32 (t : TypeId) (ex ey : Operand) (x y : UInt32) (w : World) : binRun P .sub t ex ey (w32 x) (w32 y) w = .ok (w32 (x - y)) w := by
  simp only [binRun, w32, Sem.run_bind, guard_int, Result.andThen_ok]
  simp only [binOp, if_neg (show ¬ (IntKind.u32 ≠ IntKind.u32) by simp), Op.intArith, Sem.run_pure]
  congr 2
  have hx := lt32 x
  have hy := lt32 y
  rw [wrap32z, UInt32.toNat_sub]
  omega
theorem run_mul32 (t : TypeId) (ex ey : Operand) (x y : UInt32) (w : World) : binRun P .mul t ex ey (w32 x) (w32 y) w = .ok (w32 (x * y)) w := by
  simp only [binRun, w32, Sem.run_bind, guard_int, Result.andThen_ok]
  simp only [binOp, if_neg (show ¬ (IntKind.u32 ≠ IntKind.u32) by simp), Op.intArith, Sem.run_pure]
  congr 2
  all_goals (rw [wrap32z, UInt32.toNat_mul]; omega)

theorem ofInt32 (x : UInt32) : BitVec.ofInt 32 (x.toNat : Int) = x.toBitVec := by
  rw [BitVec.ofInt_natCast]
  apply BitVec.eq_of_toNat_eq
  simp
theorem back32 (r : BitVec 32) : IntKind.u32.wrap (r.toNat : Int) = (r.toNat : Int) := by
  have := r.isLt
  rw [wrap32n]; omega
theorem run_xor32 (t : TypeId) (ex ey : Operand) (x y : UInt32) (w : World) : binRun P .xor t ex ey (w32 x) (w32 y) w = .ok (w32 (x ^^^ y)) w := by
  simp only [binRun, w32, Sem.run_bind, guard_int, Result.andThen_ok]
  simp only [binOp, if_neg (show ¬ (IntKind.u32 ≠ IntKind.u32) by simp), Op.intBits, Sem.run_pure]
  show Result.ok (Value.int .u32 (IntKind.u32.wrap ((BitVec.ofInt 32 (x.toNat : Int) ^^^ BitVec.ofInt 32 (y.toNat : Int)).toNat : Int))) w = _
  rw [ofInt32, ofInt32, back32]
  rfl
theorem run_and32 (t : TypeId) (ex ey : Operand) (x y : UInt32) (w : World) : binRun P .and t ex ey (w32 x) (w32 y) w = .ok (w32 (x &&& y)) w := by
  simp only [binRun, w32, Sem.run_bind, guard_int, Result.andThen_ok]
  simp only [binOp, if_neg (show ¬ (IntKind.u32 ≠ IntKind.u32) by simp), Op.intBits, Sem.run_pure]
  show Result.ok (Value.int .u32 (IntKind.u32.wrap ((BitVec.ofInt 32 (x.toNat : Int) &&& BitVec.ofInt 32 (y.toNat : Int)).toNat : Int))) w = _
  rw [ofInt32, ofInt32, back32]
  rfl
theorem run_or32 (t : TypeId) (ex ey : Operand) (x y : UInt32) (w : World) : binRun P .or t ex ey (w32 x) (w32 y) w = .ok (w32 (x ||| y)) w := by
  simp only [binRun, w32, Sem.run_bind, guard_int, Result.andThen_ok]
  simp only [binOp, if_neg (show ¬ (IntKind.u32 ≠ IntKind.u32) by simp), Op.intBits, Sem.run_pure]
  show Result.ok (Value.int .u32 (IntKind.u32.wrap ((BitVec.ofInt 32 (x.toNat : Int) ||| BitVec.ofInt 32 (y.toNat : Int)).toNat : Int))) w = _
  rw [ofInt32, ofInt32, back32]
  rfl
theorem run_not32 (x : UInt32) (w : World) : (Op.unary .xor (w32 x)).run P w = .ok (w32 (~~~x)) w := by
  show Result.ok (Value.int .u32 (IntKind.u32.wrap ((BitVec.ofInt 32 (4294967295 : Int) ^^^ BitVec.ofInt 32 (x.toNat : Int)).toNat : Int))) w = _
  rw [ofInt32, back32]
  unfold w32
  have h1 : BitVec.ofInt 32 4294967295 = BitVec.allOnes 32 := by decide
  have h2 : (BitVec.ofInt 32 4294967295 ^^^ x.toBitVec).toNat = (~~~x.toBitVec).toNat := by rw [h1, BitVec.allOnes_xor]
  rw [h2]
  rfl
theorem run_quo32 (t : TypeId) (ex ey : Operand) (x y : UInt32) (hy : y ≠ 0) (w : World) : binRun P .quo t ex ey (w32 x) (w32 y) w = .ok (w32 (x / y)) w := by
  have hy' : ¬ ((y.toNat : Int) = 0) := fun e => hy (UInt32.toNat_inj.1 (by simp; omega))
  simp only [binRun, w32, Sem.run_bind, guard_int, Result.andThen_ok]
  simp only [binOp, if_neg (show ¬ (IntKind.u32 ≠ IntKind.u32) by simp), Op.intDiv, if_neg hy', Sem.run_pure]
  congr 2
  all_goals (rw [← Int.ofNat_tdiv, wrap32n, UInt32.toNat_div]; have := lt32 x; have := Nat.div_le_self x.toNat y.toNat; rw [Nat.mod_eq_of_lt (by omega)])
theorem run_rem32 (t : TypeId) (ex ey : Operand) (x y : UInt32) (hy : y ≠ 0) (w : World) : binRun P .rem t ex ey (w32 x) (w32 y) w = .ok (w32 (x % y)) w := by
  have hy' : ¬ ((y.toNat : Int) = 0) := fun e => hy (UInt32.toNat_inj.1 (by simp; omega))
  simp only [binRun, w32, Sem.run_bind, guard_int, Result.andThen_ok]
  simp only [binOp, if_neg (show ¬ (IntKind.u32 ≠ IntKind.u32) by simp), Op.intDiv, if_neg hy', Sem.run_pure]
  congr 2
  all_goals (rw [← Int.ofNat_tmod, UInt32.toNat_mod])
/-- shifts by a count below the width -/
theorem run_shl32 (t : TypeId) (ex ey : Operand) (x : UInt32) (k : IntKind) (n : Nat) (hn : n < 32) (w : World) : binRun P .shl t ex ey (w32 x) (.int k (n : Int)) w = .ok (w32 (x <<< UInt32.ofNat n)) w := by
  simp only [binRun, w32, Sem.run_bind, guard_int, Result.andThen_ok]
  have h1 : min n 32 = n := by omega
  simp only [binOp, Op.shift, if_neg (show ¬ ((n : Int) < 0) by omega), Sem.run_pure, Int.toNat_natCast, show IntKind.u32.bits = 32 from rfl, h1]
  congr 2
  have e : ((x.toNat : Int) * 2 ^ n) = ((x.toNat * 2 ^ n : Nat) : Int) := by simp
  have h2 : (UInt32.ofNat n).toNat = n := by simp; omega
  rw [e, wrap32n, UInt32.toNat_shiftLeft, h2, Nat.shiftLeft_eq, Nat.mod_eq_of_lt hn]
theorem run_shr32 (t : TypeId) (ex ey : Operand) (x : UInt32) (k : IntKind) (n : Nat) (hn : n < 32) (w : World) : binRun P .shr t ex ey (w32 x) (.int k (n : Int)) w = .ok (w32 (x >>> UInt32.ofNat n)) w := by
  simp only [binRun, w32, Sem.run_bind, guard_int, Result.andThen_ok]
  have h1 : min n 32 = n := by omega
  simp only [binOp, Op.shift, if_neg (show ¬ ((n : Int) < 0) by omega), Sem.run_pure, Int.toNat_natCast, show IntKind.u32.bits = 32 from rfl, h1]
  congr 2
  have e : ((2 : Int) ^ n) = ((2 ^ n : Nat) : Int) := by simp
  have h2 : (UInt32.ofNat n).toNat = n := by simp; omega
  rw [e, UInt32.toNat_shiftRight, h2, Nat.mod_eq_of_lt hn, Nat.shiftRight_eq_div_pow]
  rw [Int.fdiv_eq_ediv_of_nonneg _ (Int.natCast_nonneg _)]
  rfl
theorem run_eq32 (t : TypeId) (ex ey : Operand) (x y : UInt32) (w : World) : binRun P .eql t ex ey (w32 x) (w32 y) w = .ok (.bool (x == y)) w := by
  simp only [binRun, w32, Sem.run_bind, guard_int, Result.andThen_ok]
  simp only [binOp, if_neg (show ¬ (IntKind.u32 ≠ IntKind.u32) by simp), Op.intCmp, Sem.run_pure]
  congr 2
  by_cases h : x = y
  · subst h; simp
  · have : ¬ ((x.toNat : Int) = y.toNat) := fun e => h (UInt32.toNat_inj.1 (by omega))
    rw [beq_eq_false_iff_ne.2 h, beq_eq_false_iff_ne.2 this]
end words
end Go.Ch
