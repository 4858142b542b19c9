import Derived.Test.YtmdijgmnopidpaaDoorWe
import Derived.Test.YtmdijgmnopidpaaDoorShaP
set_option linter.unusedVariables false
set_option linter.unusedSimpArgs false
namespace Go.Ch

/-! the constants, reckoned -/
def prodF (a b : UInt64) : List UInt64 :=
  let a0 := a % 4294967296
  let a1 := a / 4294967296
  let b0 := b % 4294967296
  let b1 := b / 4294967296
  let lo := a0 * b0
  let mid := a0 * b1 % 4294967296 + a1 * b0 % 4294967296 + lo / 4294967296
  let hi := a0 * b1 / 4294967296 + a1 * b0 / 4294967296 + a1 * b1 % 4294967296 + mid / 4294967296
  [lo % 4294967296, mid % 4294967296, hi % 4294967296, a1 * b1 / 4294967296 + hi / 4294967296]
theorem length_prodF (a b : UInt64) : (prodF a b).length = 4 := rfl
def squareF (x p : UInt64) : Bool :=
  let w := prodF x x
  let high := w.getD 3 0 * 4294967296 + w.getD 2 0
  let low := w.getD 1 0 * 4294967296 + w.getD 0 0
  if decide (high < p) then true else if high == p then low == 0 else false
/-- one limb of the cube: the limbs so far, and what is carried -/
def cubeStep (w : List UInt64) (x0 x1 : UInt64) (i : Nat) (vc : List UInt64 × UInt64) : List UInt64 × UInt64 :=
  let s := vc.2
  let c : UInt64 := 0
  let s1 := if i < 4 then s + w.getD i 0 * x0 % 4294967296 else s
  let c1 := if i < 4 then c + w.getD i 0 * x0 / 4294967296 else c
  let s2 := if 0 < i then s1 + w.getD (i - 1) 0 * x1 % 4294967296 else s1
  let c2 := if 0 < i then c1 + w.getD (i - 1) 0 * x1 / 4294967296 else c1
  (vc.1.set i (s2 % 4294967296), c2 + s2 / 4294967296)
def cubeN (w : List UInt64) (x0 x1 : UInt64) : Nat → List UInt64 × UInt64
  | 0 => (List.replicate 5 0, 0)
  | i + 1 => cubeStep w x0 x1 i (cubeN w x0 x1 i)
theorem length_cubeN (w x0 x1 i) : (cubeN w x0 x1 i).1.length = 5 := by
  induction i with
  | zero => rfl
  | succ i ih => simp [cubeN, cubeStep, ih]
def cubeF (x p : UInt64) : Bool :=
  let v := (cubeN (prodF x x) (x % 4294967296) (x / 4294967296) 5).1
  let high := v.getD 4 0 * 4294967296 + v.getD 3 0
  if decide (high < p) then true else if high == p then (if v.getD 0 0 == 0 then (if v.getD 1 0 == 0 then v.getD 2 0 == 0 else false) else false) else false
def fracN (third : Bool) (p : UInt64) : Nat → UInt64
  | 0 => 0
  | i + 1 =>
    let x := fracN third p i
    let y := x + (1 <<< UInt64.ofNat (36 - i))
    if (if third then cubeF y p else squareF y p) then y else x
def fracF (third : Bool) (p : UInt64) : UInt32 := (fracN third p 37 % 4294967296).toUInt32
def prN : Nat → List UInt64
  | 0 => []
  | j + 1 => if (prN j).all (fun q => UInt64.ofNat (2 + j) % q != 0) then prN j ++ [UInt64.ofNat (2 + j)] else prN j
theorem prN_mono (j : Nat) : (prN j).length ≤ (prN (j + 1)).length := by
  simp only [prN]
  split <;> simp
theorem prN_mono' {i j : Nat} (h : i ≤ j) : (prN i).length ≤ (prN j).length := by
  induction h with
  | refl => exact Nat.le_refl _
  | step _ ih => exact Nat.le_trans ih (prN_mono _)
theorem prN_ne (j : Nat) (h : j ≤ 1000) : ∀ q ∈ prN j, q ≠ 0 := by
  induction j with
  | zero => simp [prN]
  | succ j ih =>
    intro q hq
    simp only [prN] at hq
    split at hq
    · rcases List.mem_append.1 hq with h1 | h1
      · exact ih (by omega) q h1
      · obtain rfl := List.mem_singleton.1 h1
        intro e
        have := congrArg UInt64.toNat e
        simp at this
        omega
    · exact ih (by omega) q hq
theorem pr64 : (prN 310).length = 64 := by decide +kernel
theorem pr63 : (prN 309).length = 63 := by decide +kernel
theorem pr8 : (prN 18).length = 8 := by decide +kernel
theorem pr7 : (prN 17).length = 7 := by decide +kernel
end Go.Ch
