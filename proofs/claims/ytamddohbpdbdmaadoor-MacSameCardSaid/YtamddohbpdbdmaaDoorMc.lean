import Derived.Test.YtamddohbpdbdmaaDoorMb
import Derived.Test.YtamddohbpdbdmaaDoorPu
set_option linter.unusedVariables false
set_option linter.unusedSimpArgs false
namespace Go.Sx
open Go Go.RowKit Go.Ch Go.Proofs.YtamddohbpdbdmaaDoor
def N64 : Nat := 18446744073709551616
theorem mup_is : mup N64 = some true := by decide +kernel
theorem b8_xor (x y : UInt8) : ((x ^^^ y) == 0) = (x == y) := by
  rw [Bool.eq_iff_iff]
  simp only [beq_iff_eq, ← UInt8.toBitVec_inj, UInt8.toBitVec_xor]
  exact BitVec.xor_eq_zero_iff
theorem b8_or (x y : UInt8) : ((x ||| y) == 0) = ((x == 0) && (y == 0)) := by
  rw [Bool.eq_iff_iff]
  simp only [Bool.and_eq_true, beq_iff_eq, ← UInt8.toBitVec_inj, UInt8.toBitVec_or]
  exact BitVec.or_eq_zero_iff
theorem mSame_l1_is (n : Nat) (a b : List UInt8) (hl : a.length = b.length) (ha : a.length ≤ 9223372036854775807) : ∀ (m i fu : Nat) (o : UInt8), i + m = a.length → m < fu → (o == 0) = decide (a.take i = b.take i) → mSame_l1 n a b fu o (i : Int) = some (decide (a = b)) := by
  intro m
  induction m with
  | zero =>
    intro i fu o hi hf ho
    cases fu with
    | zero => omega
    | succ fu =>
      rw [List.take_of_length_le (by omega), List.take_of_length_le (by omega)] at ho
      rw [mSame_l1, ite_f (by simp <;> omega), ho]
  | succ m ih =>
    intro i fu o hi hf ho
    cases fu with
    | zero => omega
    | succ fu =>
      rw [mSame_l1, ite_t (by simp <;> omega), gd_pos (by omega), gd_pos (by omega), gd_pos (by omega), gd_pos (by omega), gd_pos (okI64 (by omega) (by omega)), Int.toNat_natCast]
      refine ih (i + 1) fu _ (by omega) (by omega) ?_
      rw [b8_or, b8_xor, ho]
      have e1 : a.take (i + 1) = a.take i ++ [a.getD i 0] := by
        rw [List.take_succ_eq_append_getElem (by omega), List.getD_eq_getElem?_getD, List.getElem?_eq_getElem (by omega)]; rfl
      have e2 : b.take (i + 1) = b.take i ++ [b.getD i 0] := by
        rw [List.take_succ_eq_append_getElem (by omega), List.getD_eq_getElem?_getD, List.getElem?_eq_getElem (by omega)]; rfl
      rw [e1, e2, Bool.eq_iff_iff]
      simp only [Bool.and_eq_true, decide_eq_true_eq, beq_iff_eq]
      constructor
      · rintro ⟨h1, h2⟩; rw [h1, h2]
      · intro h
        have := List.append_inj h (by simp; omega)
        exact ⟨this.1, by simpa using this.2⟩
theorem mSame_is {n : Nat} (hn : 18446744073709551616 ≤ n) {a b : List UInt8} (ha : a.length ≤ 9223372036854775807) : mSame n a b = some (a == b) := by
  have e : (a == b) = decide (a = b) := by rw [Bool.eq_iff_iff]; simp
  unfold mSame
  by_cases hl : a.length = b.length
  · rw [ite_f (by rw [hl]; simp), e]
    exact mSame_l1_is n a b hl ha a.length 0 n 0 (by omega) (by omega) (by simp)
  · have : a ≠ b := fun h => hl (by rw [h])
    rw [ite_t (by simp only [bne_iff_ne]; omega), e, decide_eq_false this]
theorem lSame_is {a b : List UInt8} (ha : a.length ≤ 9223372036854775807) : lSame N64 a b = some true := by
  unfold lSame
  rw [mup_is, Option.bind_some, cond_true, mSame_is (by decide) ha, Option.bind_some, mSame_is (by decide) ha]
  simp
end Go.Sx
namespace Go.Proofs.YtamddohbpdbdmaaDoor
open Go.RowKit Go.Ch Go.Sx
theorem sl_max {w : World} {B : Nat} {v : Value} {l : List UInt8} (hv : Sl w B v (l.map bU)) : l.length ≤ 9223372036854775807 := by
  obtain ⟨_, A, c, _, h1, h2, _⟩ := hv
  rw [List.length_map] at h1
  unfold maxLen at h2
  omega
theorem macSame_c (w : World) (B0 : Nat) (v0 : Value) (l0 : List UInt8) (hv0 : Sl w B0 v0 (l0.map bU)) (B1 : Nat) (v1 : Value) (l1 : List UInt8) (hv1 : Sl w B1 v1 (l1.map bU)) (hG : GK w) :
    Calls Tryd.prog 6 #[v0, v1] w (Ret fun v' w' => Ext w w' ∧ v' = .bool true) := by
  obtain ⟨p0, a0, b0⟩ := in_b hv0 5
  obtain ⟨p1, a1, b1⟩ := in_b hv1 5
  exact law_of (lSame_ok N64 true) (args := [.c (.wh 0), .c (.wh 1)]) (H := [⟨.ro false, 5, 1, l0.length, .b l0⟩, ⟨.ro false, 5, 1, l1.length, .b l1⟩]) (ρ := plL [p0, p1]) (vals := [v0, v1]) rfl (allP_cons.2 ⟨lSame_is (sl_max hv0), allP_nil⟩) hG (hpL (ps := [p0, p1]) (F2.cons b0 (F2.cons b1 F2.nil))) (F2.cons a0 (F2.cons a1 F2.nil))
end Go.Proofs.YtamddohbpdbdmaaDoor
