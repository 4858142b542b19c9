import Derived.Test.YtpinmaodpfoinaaRq
import Derived.Test.YtpinmaodpfoinaaWe
set_option linter.unusedVariables false
set_option linter.unusedSimpArgs false
namespace Go.Ch
open Go.RowKit
/-! words of 8 bits -/
section words8
variable {P : Program} {w : World}
theorem wrap8n (n : Nat) : IntKind.u8.wrap (n : Int) = ((n % 256 : Nat) : Int) := by
  rw [IntKind.wrap_u8]; omega
theorem wrap8z (n : Int) : IntKind.u8.wrap n = n % 256 := by rw [IntKind.wrap_u8]
theorem lt8 (x : UInt8) : x.toNat < 256 := x.toNat_lt
theorem run_add8 (t : TypeId) (ex ey : Operand) (x y : UInt8) (w : World) : binRun P .add t ex ey (bU x) (bU y) w = .ok (bU (x + y)) w := by
  simp only [binRun, bU, Sem.run_bind, guard_int, Result.andThen_ok]
  simp only [binOp, if_neg (show ¬ (IntKind.u8 ≠ IntKind.u8) by simp), Op.intArith, Sem.run_pure]
  congr 2
  all_goals (rw [wrap8z, UInt8.toNat_add]; omega)
theorem run_sub8 (t : TypeId) (ex ey : Operand) (x y : UInt8) (w : World) : binRun P .sub t ex ey (bU x) (bU y) w = .ok (bU (x - y)) w := by
  simp only [binRun, bU, Sem.run_bind, guard_int, Result.andThen_ok]
  simp only [binOp, if_neg (show ¬ (IntKind.u8 ≠ IntKind.u8) by simp), Op.intArith, Sem.run_pure]
  congr 2
  have hx := lt8 x
  have hy := lt8 y
  rw [wrap8z, UInt8.toNat_sub]
  omega
theorem run_mul8 (t : TypeId) (ex ey : Operand) (x y : UInt8) (w : World) : binRun P .mul t ex ey (bU x) (bU y) w = .ok (bU (x * y)) w := by
  simp only [binRun, bU, Sem.run_bind, guard_int, Result.andThen_ok]
  simp only [binOp, if_neg (show ¬ (IntKind.u8 ≠ IntKind.u8) by simp), Op.intArith, Sem.run_pure]
  congr 2
  all_goals (rw [wrap8z, UInt8.toNat_mul]; omega)

theorem ofInt8 (x : UInt8) : BitVec.ofInt 8 (x.toNat : Int) = x.toBitVec := by
  rw [BitVec.ofInt_natCast]
  apply BitVec.eq_of_toNat_eq
  simp
theorem back8 (r : BitVec 8) : IntKind.u8.wrap (r.toNat : Int) = (r.toNat : Int) := by
  have := r.isLt
  rw [wrap8n]; omega
theorem run_xor8 (t : TypeId) (ex ey : Operand) (x y : UInt8) (w : World) : binRun P .xor t ex ey (bU x) (bU y) w = .ok (bU (x ^^^ y)) w := by
  simp only [binRun, bU, Sem.run_bind, guard_int, Result.andThen_ok]
  simp only [binOp, if_neg (show ¬ (IntKind.u8 ≠ IntKind.u8) by simp), Op.intBits, Sem.run_pure]
  show Result.ok (Value.int .u8 (IntKind.u8.wrap ((BitVec.ofInt 8 (x.toNat : Int) ^^^ BitVec.ofInt 8 (y.toNat : Int)).toNat : Int))) w = _
  rw [ofInt8, ofInt8, back8]
  rfl
theorem run_and8 (t : TypeId) (ex ey : Operand) (x y : UInt8) (w : World) : binRun P .and t ex ey (bU x) (bU y) w = .ok (bU (x &&& y)) w := by
  simp only [binRun, bU, Sem.run_bind, guard_int, Result.andThen_ok]
  simp only [binOp, if_neg (show ¬ (IntKind.u8 ≠ IntKind.u8) by simp), Op.intBits, Sem.run_pure]
  show Result.ok (Value.int .u8 (IntKind.u8.wrap ((BitVec.ofInt 8 (x.toNat : Int) &&& BitVec.ofInt 8 (y.toNat : Int)).toNat : Int))) w = _
  rw [ofInt8, ofInt8, back8]
  rfl
theorem run_or8 (t : TypeId) (ex ey : Operand) (x y : UInt8) (w : World) : binRun P .or t ex ey (bU x) (bU y) w = .ok (bU (x ||| y)) w := by
  simp only [binRun, bU, Sem.run_bind, guard_int, Result.andThen_ok]
  simp only [binOp, if_neg (show ¬ (IntKind.u8 ≠ IntKind.u8) by simp), Op.intBits, Sem.run_pure]
  show Result.ok (Value.int .u8 (IntKind.u8.wrap ((BitVec.ofInt 8 (x.toNat : Int) ||| BitVec.ofInt 8 (y.toNat : Int)).toNat : Int))) w = _
  rw [ofInt8, ofInt8, back8]
  rfl
theorem run_not8 (x : UInt8) (w : World) : (Op.unary .xor (bU x)).run P w = .ok (bU (~~~x)) w := by
  show Result.ok (Value.int .u8 (IntKind.u8.wrap ((BitVec.ofInt 8 (255 : Int) ^^^ BitVec.ofInt 8 (x.toNat : Int)).toNat : Int))) w = _
  rw [ofInt8, back8]
  unfold bU
  have h1 : BitVec.ofInt 8 255 = BitVec.allOnes 8 := by decide
  have h2 : (BitVec.ofInt 8 255 ^^^ x.toBitVec).toNat = (~~~x.toBitVec).toNat := by rw [h1, BitVec.allOnes_xor]
  rw [h2]
  rfl
theorem run_quo8 (t : TypeId) (ex ey : Operand) (x y : UInt8) (hy : y ≠ 0) (w : World) : binRun P .quo t ex ey (bU x) (bU y) w = .ok (bU (x / y)) w := by
  have hy' : ¬ ((y.toNat : Int) = 0) := fun e => hy (UInt8.toNat_inj.1 (by simp; omega))
  simp only [binRun, bU, Sem.run_bind, guard_int, Result.andThen_ok]
  simp only [binOp, if_neg (show ¬ (IntKind.u8 ≠ IntKind.u8) by simp), Op.intDiv, if_neg hy', Sem.run_pure]
  congr 2
  all_goals (rw [← Int.ofNat_tdiv, wrap8n, UInt8.toNat_div]; have := lt8 x; have := Nat.div_le_self x.toNat y.toNat; rw [Nat.mod_eq_of_lt (by omega)])
theorem run_rem8 (t : TypeId) (ex ey : Operand) (x y : UInt8) (hy : y ≠ 0) (w : World) : binRun P .rem t ex ey (bU x) (bU y) w = .ok (bU (x % y)) w := by
  have hy' : ¬ ((y.toNat : Int) = 0) := fun e => hy (UInt8.toNat_inj.1 (by simp; omega))
  simp only [binRun, bU, Sem.run_bind, guard_int, Result.andThen_ok]
  simp only [binOp, if_neg (show ¬ (IntKind.u8 ≠ IntKind.u8) by simp), Op.intDiv, if_neg hy', Sem.run_pure]
  congr 2
  all_goals (rw [← Int.ofNat_tmod, UInt8.toNat_mod])
/-- shifts by a count below the width -/
theorem run_shl8 (t : TypeId) (ex ey : Operand) (x : UInt8) (k : IntKind) (n : Nat) (hn : n < 8) (w : World) : binRun P .shl t ex ey (bU x) (.int k (n : Int)) w = .ok (bU (x <<< UInt8.ofNat n)) w := by
  simp only [binRun, bU, Sem.run_bind, guard_int, Result.andThen_ok]
  have h1 : min n 8 = n := by omega
  simp only [binOp, Op.shift, if_neg (show ¬ ((n : Int) < 0) by omega), Sem.run_pure, Int.toNat_natCast, show IntKind.u8.bits = 8 from rfl, h1]
  congr 2
  have e : ((x.toNat : Int) * 2 ^ n) = ((x.toNat * 2 ^ n : Nat) : Int) := by simp
  have h2 : (UInt8.ofNat n).toNat = n := by simp; omega
  rw [e, wrap8n, UInt8.toNat_shiftLeft, h2, Nat.shiftLeft_eq, Nat.mod_eq_of_lt hn]
theorem run_shr8 (t : TypeId) (ex ey : Operand) (x : UInt8) (k : IntKind) (n : Nat) (hn : n < 8) (w : World) : binRun P .shr t ex ey (bU x) (.int k (n : Int)) w = .ok (bU (x >>> UInt8.ofNat n)) w := by
  simp only [binRun, bU, Sem.run_bind, guard_int, Result.andThen_ok]
  have h1 : min n 8 = n := by omega
  simp only [binOp, Op.shift, if_neg (show ¬ ((n : Int) < 0) by omega), Sem.run_pure, Int.toNat_natCast, show IntKind.u8.bits = 8 from rfl, h1]
  congr 2
  have e : ((2 : Int) ^ n) = ((2 ^ n : Nat) : Int) := by simp
  have h2 : (UInt8.ofNat n).toNat = n := by simp; omega
  rw [e, UInt8.toNat_shiftRight, h2, Nat.mod_eq_of_lt hn, Nat.shiftRight_eq_div_pow]
  rw [Int.fdiv_eq_ediv_of_nonneg _ (Int.natCast_nonneg _)]
  rfl
theorem run_eq8 (t : TypeId) (ex ey : Operand) (x y : UInt8) (w : World) : binRun P .eql t ex ey (bU x) (bU y) w = .ok (.bool (x == y)) w := by
  simp only [binRun, bU, Sem.run_bind, guard_int, Result.andThen_ok]
  simp only [binOp, if_neg (show ¬ (IntKind.u8 ≠ IntKind.u8) by simp), Op.intCmp, Sem.run_pure]
  congr 2
  by_cases h : x = y
  · subst h; simp
  · have : ¬ ((x.toNat : Int) = y.toNat) := fun e => h (UInt8.toNat_inj.1 (by omega))
    rw [beq_eq_false_iff_ne.2 h, beq_eq_false_iff_ne.2 this]

theorem run_ne8 (t : TypeId) (ex ey : Operand) (x y : UInt8) (w : World) : binRun P .neq t ex ey (bU x) (bU y) w = .ok (.bool (x != y)) w := by
  simp only [binRun, bU, Sem.run_bind, guard_int, Result.andThen_ok]
  simp only [binOp, if_neg (show ¬ (IntKind.u8 ≠ IntKind.u8) by simp), Op.intCmp, Sem.run_pure]
  congr 2
  by_cases h : x = y
  · subst h; simp
  · have : ¬ ((x.toNat : Int) = y.toNat) := fun e => h (UInt8.toNat_inj.1 (by omega))
    rw [bne_iff_ne.2 h, bne_iff_ne.2 this]
theorem run_ltx8 (t : TypeId) (ex ey : Operand) (x y : UInt8) {b : Bool} (h : decide (x < y) = b) (w : World) : binRun P .lss t ex ey (bU x) (bU y) w = .ok (.bool b) w := by
  simp only [binRun, bU, Sem.run_bind, guard_int, Result.andThen_ok]
  simp only [binOp, if_neg (show ¬ (IntKind.u8 ≠ IntKind.u8) by simp), Op.intCmp, Sem.run_pure]
  congr 2
  rw [← h]
  have e : ((x.toNat : Int) < (y.toNat : Int)) ↔ x < y := by rw [UInt8.lt_iff_toNat_lt]; omega
  simp [e]
theorem run_eqx8 (t : TypeId) (ex ey : Operand) (x y : UInt8) {b : Bool} (h : (x == y) = b) (w : World) : binRun P .eql t ex ey (bU x) (bU y) w = .ok (.bool b) w := by
  rw [← h]; exact run_eq8 t ex ey x y w
end words8

section cmps
variable {P : Program}
theorem decI (a b : Nat) : decide ((a : Int) < (b : Int)) = decide (a < b) := by simp
theorem run_cmp8 (op : BinOp) (t : TypeId) (ex ey : Operand) (x y : UInt8) (w : World) (h : op = .lss ∨ op = .leq ∨ op = .gtr ∨ op = .geq ∨ op = .neq) :
    binRun P op t ex ey (bU x) (bU y) w = .ok (.bool (match op with | .lss => decide (x < y) | .leq => decide (x ≤ y) | .gtr => decide (y < x) | .geq => decide (y ≤ x) | _ => x != y)) w := by
  have e : ((x.toNat : Int) = y.toNat) ↔ x = y := by rw [← UInt8.toNat_inj]; omega
  rcases h with rfl | rfl | rfl | rfl | rfl <;> simp [binRun, bU, guard_int, binOp, Op.intCmp, UInt8.lt_iff_toNat_lt, UInt8.le_iff_toNat_le, bne, e]
  by_cases hxy : x = y
  · subst hxy; simp
  · rw [beq_eq_false_iff_ne.2 hxy, beq_eq_false_iff_ne.2 (fun h => hxy (e.1 h))]
theorem run_cmp32 (op : BinOp) (t : TypeId) (ex ey : Operand) (x y : UInt32) (w : World) (h : op = .lss ∨ op = .leq ∨ op = .gtr ∨ op = .geq ∨ op = .neq) :
    binRun P op t ex ey (w32 x) (w32 y) w = .ok (.bool (match op with | .lss => decide (x < y) | .leq => decide (x ≤ y) | .gtr => decide (y < x) | .geq => decide (y ≤ x) | _ => x != y)) w := by
  have e : ((x.toNat : Int) = y.toNat) ↔ x = y := by rw [← UInt32.toNat_inj]; omega
  rcases h with rfl | rfl | rfl | rfl | rfl <;> simp [binRun, w32, guard_int, binOp, Op.intCmp, UInt32.lt_iff_toNat_lt, UInt32.le_iff_toNat_le, bne, e]
  by_cases hxy : x = y
  · subst hxy; simp
  · rw [beq_eq_false_iff_ne.2 hxy, beq_eq_false_iff_ne.2 (fun h => hxy (e.1 h))]
theorem run_cmp64 (op : BinOp) (t : TypeId) (ex ey : Operand) (x y : UInt64) (w : World) (h : op = .lss ∨ op = .leq ∨ op = .gtr ∨ op = .geq ∨ op = .neq) :
    binRun P op t ex ey (w64 x) (w64 y) w = .ok (.bool (match op with | .lss => decide (x < y) | .leq => decide (x ≤ y) | .gtr => decide (y < x) | .geq => decide (y ≤ x) | _ => x != y)) w := by
  have e : ((x.toNat : Int) = y.toNat) ↔ x = y := by rw [← UInt64.toNat_inj]; omega
  rcases h with rfl | rfl | rfl | rfl | rfl <;> simp [binRun, w64, guard_int, binOp, Op.intCmp, UInt64.lt_iff_toNat_lt, UInt64.le_iff_toNat_le, bne, e]
  by_cases hxy : x = y
  · subst hxy; simp
  · rw [beq_eq_false_iff_ne.2 hxy, beq_eq_false_iff_ne.2 (fun h => hxy (e.1 h))]
end cmps
end Go.Ch

namespace Go.Sx
open Go.RowKit Go.Ch

/-! ### values that hold no place in memory -/
inductive Sc where
  | b (x : Bool) | k (kd : IntKind) (n : Int) | u8 (x : UInt8) | u32 (x : UInt32) | u64 (x : UInt64)
  | str (l : List UInt8) | er (t : TypeId) (kd : IntKind) (o : Option Int) | v (x : Value)

def Sc.val : Sc → Value
  | .b x => .bool x
  | .k kd n => .int kd n
  | .u8 x => bU x
  | .u32 x => w32 x
  | .u64 x => w64 x
  | .str l => .string ⟨l.toArray⟩
  | .er t kd o => match o with | none => .nilIface | some n => .iface t (.int kd n)
  | .v x => x

def allP : List Prop → Prop
  | [] => True
  | p :: ps => match ps with | [] => p | _ => p ∧ allP ps
theorem allP_cons {p : Prop} {ps : List Prop} : allP (p :: ps) ↔ p ∧ allP ps := by
  cases ps <;> simp [allP]
theorem allP_append : ∀ {ps qs : List Prop}, allP (ps ++ qs) ↔ allP ps ∧ allP qs
  | [], qs => by simp [allP]
  | p :: ps, qs => by rw [List.cons_append, allP_cons, allP_cons, allP_append, and_assoc]

/-- an integer of a kind -/
def okI (kd : IntKind) (n : Int) : Prop := kd.wrap n = n
instance (kd : IntKind) (n : Int) : Decidable (okI kd n) := inferInstanceAs (Decidable (kd.wrap n = n))

def bitI (op : BinOp) (kd : IntKind) (x y : Int) : Int :=
  let a := BitVec.ofInt kd.bits x
  let c := BitVec.ofInt kd.bits y
  kd.wrap (match op with | .and => a &&& c | .or => a ||| c | .xor => a ^^^ c | _ => a &&& ~~~c).toNat

/-- the number in it -/
def Sc.int? : Sc → Option Int
  | .k _ n => some n
  | .u8 x => some (x.toNat : Int)
  | .u32 x => some (x.toNat : Int)
  | .u64 x => some (x.toNat : Int)
  | _ => none
def Sc.kind? : Sc → Option IntKind
  | .k kd _ => some kd
  | .u8 _ => some .u8
  | .u32 _ => some .u32
  | .u64 _ => some .u64
  | _ => none
theorem Sc.int_val {x : Sc} {n : Int} (h : x.int? = some n) : ∃ kd, x.kind? = some kd ∧ x.val = .int kd n := by
  cases x <;> simp [Sc.int?] at h <;> subst h <;> exact ⟨_, rfl, rfl⟩

def shl8 (x : UInt8) (n : Int) : UInt8 := if n < 8 then x <<< UInt8.ofNat n.toNat else 0
def shr8 (x : UInt8) (n : Int) : UInt8 := if n < 8 then x >>> UInt8.ofNat n.toNat else 0
def shl32 (x : UInt32) (n : Int) : UInt32 := if n < 32 then x <<< UInt32.ofNat n.toNat else 0
def shr32 (x : UInt32) (n : Int) : UInt32 := if n < 32 then x >>> UInt32.ofNat n.toNat else 0
def shl64 (x : UInt64) (n : Int) : UInt64 := if n < 64 then x <<< UInt64.ofNat n.toNat else 0
def shr64 (x : UInt64) (n : Int) : UInt64 := if n < 64 then x >>> UInt64.ofNat n.toNat else 0

def binK (op : BinOp) (kd : IntKind) (a c : Int) : Option (List Prop × Sc) :=
  match op with
  | .add => some ([okI kd (a + c)], .k kd (a + c))
  | .sub => some ([okI kd (a - c)], .k kd (a - c))
  | .mul => some ([okI kd (a * c)], .k kd (a * c))
  | .quo => some ([c ≠ 0, okI kd (a.tdiv c)], .k kd (a.tdiv c))
  | .rem => some ([c ≠ 0], .k kd (a.tmod c))
  | .and => some ([], .k kd (bitI .and kd a c))
  | .or => some ([], .k kd (bitI .or kd a c))
  | .xor => some ([], .k kd (bitI .xor kd a c))
  | .andNot => some ([], .k kd (bitI .andNot kd a c))
  | .eql => some ([], .b (a == c))
  | .neq => some ([], .b (a != c))
  | .lss => some ([], .b (decide (a < c)))
  | .leq => some ([], .b (decide (a ≤ c)))
  | .gtr => some ([], .b (decide (c < a)))
  | .geq => some ([], .b (decide (c ≤ a)))
  | _ => none
def bin8 (op : BinOp) (a c : UInt8) : Option (List Prop × Sc) :=
  match op with
  | .add => some ([], .u8 (a + c))
  | .sub => some ([], .u8 (a - c))
  | .mul => some ([], .u8 (a * c))
  | .quo => some ([c ≠ 0], .u8 (a / c))
  | .rem => some ([c ≠ 0], .u8 (a % c))
  | .and => some ([], .u8 (a &&& c))
  | .or => some ([], .u8 (a ||| c))
  | .xor => some ([], .u8 (a ^^^ c))
  | .eql => some ([], .b (a == c))
  | .neq => some ([], .b (a != c))
  | .lss => some ([], .b (decide (a < c)))
  | .leq => some ([], .b (decide (a ≤ c)))
  | .gtr => some ([], .b (decide (c < a)))
  | .geq => some ([], .b (decide (c ≤ a)))
  | _ => none
def bin32 (op : BinOp) (a c : UInt32) : Option (List Prop × Sc) :=
  match op with
  | .add => some ([], .u32 (a + c))
  | .sub => some ([], .u32 (a - c))
  | .mul => some ([], .u32 (a * c))
  | .quo => some ([c ≠ 0], .u32 (a / c))
  | .rem => some ([c ≠ 0], .u32 (a % c))
  | .and => some ([], .u32 (a &&& c))
  | .or => some ([], .u32 (a ||| c))
  | .xor => some ([], .u32 (a ^^^ c))
  | .eql => some ([], .b (a == c))
  | .neq => some ([], .b (a != c))
  | .lss => some ([], .b (decide (a < c)))
  | .leq => some ([], .b (decide (a ≤ c)))
  | .gtr => some ([], .b (decide (c < a)))
  | .geq => some ([], .b (decide (c ≤ a)))
  | _ => none
def bin64 (op : BinOp) (a c : UInt64) : Option (List Prop × Sc) :=
  match op with
  | .add => some ([], .u64 (a + c))
  | .sub => some ([], .u64 (a - c))
  | .mul => some ([], .u64 (a * c))
  | .quo => some ([c ≠ 0], .u64 (a / c))
  | .rem => some ([c ≠ 0], .u64 (a % c))
  | .and => some ([], .u64 (a &&& c))
  | .or => some ([], .u64 (a ||| c))
  | .xor => some ([], .u64 (a ^^^ c))
  | .eql => some ([], .b (a == c))
  | .neq => some ([], .b (a != c))
  | .lss => some ([], .b (decide (a < c)))
  | .leq => some ([], .b (decide (a ≤ c)))
  | .gtr => some ([], .b (decide (c < a)))
  | .geq => some ([], .b (decide (c ≤ a)))
  | _ => none

def shx (op : BinOp) (x : Sc) (n : Int) : Option (List Prop × Sc) :=
  match op, x with
  | .shl, .u8 a => some ([0 ≤ n], .u8 (shl8 a n))
  | .shr, .u8 a => some ([0 ≤ n], .u8 (shr8 a n))
  | .shl, .u32 a => some ([0 ≤ n], .u32 (shl32 a n))
  | .shr, .u32 a => some ([0 ≤ n], .u32 (shr32 a n))
  | .shl, .u64 a => some ([0 ≤ n], .u64 (shl64 a n))
  | .shr, .u64 a => some ([0 ≤ n], .u64 (shr64 a n))
  | .shl, .k kd a => some ([0 ≤ n, n ≤ kd.bits, okI kd (a * 2 ^ n.toNat)], .k kd (a * 2 ^ n.toNat))
  | .shr, .k kd a => some ([0 ≤ n, n ≤ kd.bits], .k kd (a / 2 ^ n.toNat))
  | _, _ => none
/-- texts -/
def binS (op : BinOp) (a c : List UInt8) : Option (List Prop × Sc) :=
  match op with
  | .eql => some ([], .b (a == c))
  | .neq => some ([], .b (a != c))
  | .lss => some ([], .b (Op.bytesLess a c))
  | .geq => some ([], .b (!Op.bytesLess a c))
  | .gtr => some ([], .b (!(Op.bytesLess a c || a == c)))
  | .leq => some ([], .b (Op.bytesLess a c || a == c))
  | _ => none

section
variable {P : Program}
theorem binS_ok {op : BinOp} {a c : List UInt8} {g : List Prop} {z : Sc} (h : binS op a c = some (g, z)) (t : TypeId) (ex ey : Operand) (w : World) :
    binRun P op t ex ey (.string ⟨a.toArray⟩) (.string ⟨c.toArray⟩) w = .ok z.val w := by
  cases op <;> simp [binS] at h <;> obtain ⟨rfl, rfl⟩ := h <;> simp [binRun, eqGuard, binOp, Op.stringOp, mk_toList, Sc.val, bne]
theorem binK_ok {op : BinOp} {kd : IntKind} {a c : Int} {g : List Prop} {z : Sc} (h : binK op kd a c = some (g, z)) (hg : allP g) (t : TypeId) (ex ey : Operand) (w : World) :
    binRun P op t ex ey (.int kd a) (.int kd c) w = .ok z.val w := by
  cases op <;> simp [binK] at h <;> obtain ⟨rfl, rfl⟩ := h <;> simp [allP, okI] at hg <;>
    simp [binRun, guard_int, binOp, Op.intArith, Op.intDiv, Op.intBits, Op.intCmp, Sc.val, bitI, hg, bne]
theorem bin8_ok {op : BinOp} {a c : UInt8} {g : List Prop} {z : Sc} (h : bin8 op a c = some (g, z)) (hg : allP g) (t : TypeId) (ex ey : Operand) (w : World) :
    binRun P op t ex ey (bU a) (bU c) w = .ok z.val w := by
  cases op <;> simp [bin8] at h <;> obtain ⟨rfl, rfl⟩ := h <;> simp [allP] at hg
  case add => exact run_add8 _ _ _ _ _ _
  case sub => exact run_sub8 _ _ _ _ _ _
  case mul => exact run_mul8 _ _ _ _ _ _
  case and => exact run_and8 _ _ _ _ _ _
  case or => exact run_or8 _ _ _ _ _ _
  case xor => exact run_xor8 _ _ _ _ _ _
  case quo => exact run_quo8 _ _ _ _ _ hg _
  case rem => exact run_rem8 _ _ _ _ _ hg _
  case eql => exact run_eq8 _ _ _ _ _ _
  case neq => exact run_cmp8 _ _ _ _ _ _ _ (by simp)
  case lss => exact run_cmp8 _ _ _ _ _ _ _ (by simp)
  case leq => exact run_cmp8 _ _ _ _ _ _ _ (by simp)
  case gtr => exact run_cmp8 _ _ _ _ _ _ _ (by simp)
  case geq => exact run_cmp8 _ _ _ _ _ _ _ (by simp)
theorem bin32_ok {op : BinOp} {a c : UInt32} {g : List Prop} {z : Sc} (h : bin32 op a c = some (g, z)) (hg : allP g) (t : TypeId) (ex ey : Operand) (w : World) :
    binRun P op t ex ey (w32 a) (w32 c) w = .ok z.val w := by
  cases op <;> simp [bin32] at h <;> obtain ⟨rfl, rfl⟩ := h <;> simp [allP] at hg
  case add => exact run_add32 _ _ _ _ _ _
  case sub => exact run_sub32 _ _ _ _ _ _
  case mul => exact run_mul32 _ _ _ _ _ _
  case and => exact run_and32 _ _ _ _ _ _
  case or => exact run_or32 _ _ _ _ _ _
  case xor => exact run_xor32 _ _ _ _ _ _
  case quo => exact run_quo32 _ _ _ _ _ hg _
  case rem => exact run_rem32 _ _ _ _ _ hg _
  case eql => exact run_eq32 _ _ _ _ _ _
  case neq => exact run_cmp32 _ _ _ _ _ _ _ (by simp)
  case lss => exact run_cmp32 _ _ _ _ _ _ _ (by simp)
  case leq => exact run_cmp32 _ _ _ _ _ _ _ (by simp)
  case gtr => exact run_cmp32 _ _ _ _ _ _ _ (by simp)
  case geq => exact run_cmp32 _ _ _ _ _ _ _ (by simp)
theorem bin64_ok {op : BinOp} {a c : UInt64} {g : List Prop} {z : Sc} (h : bin64 op a c = some (g, z)) (hg : allP g) (t : TypeId) (ex ey : Operand) (w : World) :
    binRun P op t ex ey (w64 a) (w64 c) w = .ok z.val w := by
  cases op <;> simp [bin64] at h <;> obtain ⟨rfl, rfl⟩ := h <;> simp [allP] at hg
  case add => exact Go.Ch.run_add64 _ _ _ _ _ _
  case sub => exact Go.Ch.run_sub64 _ _ _ _ _ _
  case mul => exact Go.Ch.run_mul64 _ _ _ _ _ _
  case and => exact Go.Ch.run_and64 _ _ _ _ _ _
  case or => exact Go.Ch.run_or64 _ _ _ _ _ _
  case xor => exact Go.Ch.run_xor64 _ _ _ _ _ _
  case quo => exact Go.Ch.run_quo64 _ _ _ _ _ hg _
  case rem => exact Go.Ch.run_rem64 _ _ _ _ _ hg _
  case eql => exact Go.Ch.run_eq64 _ _ _ _ _ _
  case neq => exact Go.Ch.run_cmp64 _ _ _ _ _ _ _ (by simp)
  case lss => exact Go.Ch.run_cmp64 _ _ _ _ _ _ _ (by simp)
  case leq => exact Go.Ch.run_cmp64 _ _ _ _ _ _ _ (by simp)
  case gtr => exact Go.Ch.run_cmp64 _ _ _ _ _ _ _ (by simp)
  case geq => exact Go.Ch.run_cmp64 _ _ _ _ _ _ _ (by simp)
theorem shl_far (kd kd' : IntKind) (x n : Int) (h : (kd.bits : Int) ≤ n) (h0 : 0 ≤ n) (t ex ey) (w : World) :
    binRun P .shl t ex ey (.int kd x) (.int kd' n) w = .ok (.int kd (kd.wrap (x * 2 ^ kd.bits))) w := by
  have h1 : min n.toNat kd.bits = kd.bits := by omega
  simp [binRun, guard_int, binOp, Op.shift, show ¬ n < 0 by omega, h1]
theorem shr_far (kd kd' : IntKind) (x n : Int) (h : (kd.bits : Int) ≤ n) (h0 : 0 ≤ n) (t ex ey) (w : World) :
    binRun P .shr t ex ey (.int kd x) (.int kd' n) w = .ok (.int kd (x.fdiv (2 ^ kd.bits))) w := by
  have h1 : min n.toNat kd.bits = kd.bits := by omega
  simp [binRun, guard_int, binOp, Op.shift, show ¬ n < 0 by omega, h1]
theorem shx_ok {op : BinOp} {x : Sc} {n : Int} {kd' : IntKind} {g : List Prop} {z : Sc} (h : shx op x n = some (g, z)) (hg : allP g) (t : TypeId) (ex ey : Operand) (w : World) :
    binRun P op t ex ey x.val (.int kd' n) w = .ok z.val w := by
  cases op <;> cases x <;> simp only [shx, reduceCtorEq, Option.some.injEq, Prod.mk.injEq] at h <;> obtain ⟨rfl, rfl⟩ := h <;> simp only [allP] at hg
  case shl.k kd a =>
    obtain ⟨h0, h1, h2⟩ := hg
    have e : min n.toNat kd.bits = n.toNat := by omega
    unfold okI at h2
    simp [binRun, guard_int, binOp, Op.shift, Sc.val, show ¬ n < 0 by omega, e, h2]
  case shr.k kd a =>
    obtain ⟨h0, h1⟩ := hg
    have e : min n.toNat kd.bits = n.toNat := by omega
    have e2 : ((2 : Int) ^ n.toNat) = ((2 ^ n.toNat : Nat) : Int) := by simp
    simp [binRun, guard_int, binOp, Op.shift, Sc.val, show ¬ n < 0 by omega, e]
    rw [e2, Int.fdiv_eq_ediv_of_nonneg _ (Int.natCast_nonneg _)]
  all_goals
    rename_i a
    obtain ⟨m, rfl⟩ := Int.eq_ofNat_of_zero_le hg
  case shl.u8 =>
    by_cases hm : m < 8
    · have := run_shl8 (P := P) t ex ey a kd' m hm w
      simpa [Sc.val, shl8, hm, show (m : Int) < 8 by omega] using this
    · have := shl_far (P := P) .u8 kd' a.toNat m (by simp [IntKind.bits]; omega) hg t ex ey w
      simp only [Sc.val, bU, shl8, if_neg (show ¬ (m : Int) < 8 by omega)]
      rw [this, wrap8z]; simp [IntKind.bits]
  case shr.u8 =>
    by_cases hm : m < 8
    · have := run_shr8 (P := P) t ex ey a kd' m hm w
      simpa [Sc.val, shr8, hm, show (m : Int) < 8 by omega] using this
    · have := shr_far (P := P) .u8 kd' a.toNat m (by simp [IntKind.bits]; omega) hg t ex ey w
      simp only [Sc.val, bU, shr8, if_neg (show ¬ (m : Int) < 8 by omega)]
      rw [this, Int.fdiv_eq_ediv_of_nonneg _ (by simp [IntKind.bits])]
      have := lt8 a
      simp [IntKind.bits]; omega
  case shl.u32 =>
    by_cases hm : m < 32
    · have := run_shl32 (P := P) t ex ey a kd' m hm w
      simpa [Sc.val, shl32, hm, show (m : Int) < 32 by omega] using this
    · have := shl_far (P := P) .u32 kd' a.toNat m (by simp [IntKind.bits]; omega) hg t ex ey w
      simp only [Sc.val, w32, shl32, if_neg (show ¬ (m : Int) < 32 by omega)]
      rw [this, wrap32z]; simp [IntKind.bits]
  case shr.u32 =>
    by_cases hm : m < 32
    · have := run_shr32 (P := P) t ex ey a kd' m hm w
      simpa [Sc.val, shr32, hm, show (m : Int) < 32 by omega] using this
    · have := shr_far (P := P) .u32 kd' a.toNat m (by simp [IntKind.bits]; omega) hg t ex ey w
      simp only [Sc.val, w32, shr32, if_neg (show ¬ (m : Int) < 32 by omega)]
      rw [this, Int.fdiv_eq_ediv_of_nonneg _ (by simp [IntKind.bits])]
      have := lt32 a
      simp [IntKind.bits]; omega
  case shl.u64 =>
    by_cases hm : m < 64
    · have := run_shl64 (P := P) t ex ey a kd' m hm w
      simpa [Sc.val, shl64, hm, show (m : Int) < 64 by omega] using this
    · have := shl_far (P := P) .u64 kd' a.toNat m (by simp [IntKind.bits]; omega) hg t ex ey w
      simp only [Sc.val, w64, shl64, if_neg (show ¬ (m : Int) < 64 by omega)]
      rw [this, wrap64z]; simp [IntKind.bits]
  case shr.u64 =>
    by_cases hm : m < 64
    · have := run_shr64 (P := P) t ex ey a kd' m hm w
      simpa [Sc.val, shr64, hm, show (m : Int) < 64 by omega] using this
    · have := shr_far (P := P) .u64 kd' a.toNat m (by simp [IntKind.bits]; omega) hg t ex ey w
      simp only [Sc.val, w64, shr64, if_neg (show ¬ (m : Int) < 64 by omega)]
      rw [this, Int.fdiv_eq_ediv_of_nonneg _ (by simp [IntKind.bits])]
      have := lt64 a
      simp [IntKind.bits]; omega
end
end Go.Sx
