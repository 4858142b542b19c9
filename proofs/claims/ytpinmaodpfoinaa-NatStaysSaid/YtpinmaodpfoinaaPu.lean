import Derived.Test.YtpinmaodpfoinaaSxU
set_option linter.unusedVariables false
set_option linter.unusedSimpArgs false
namespace Go.Sx
open Go.RowKit Go.Ch

/-! ### plain laws for what sx.py prints -/
theorem okI64 {n : Int} (h0 : -9223372036854775808 ≤ n) (h1 : n < 9223372036854775808) : okI .i64 n := by
  unfold okI IntKind.wrap
  simp [IntKind.bits, IntKind.signed]
  omega
/-- the first j of xs, noughts behind, n in all -/
def filN {α : Type} (z : α) (xs : List α) (j n : Nat) : List α := xs.take j ++ List.replicate (n - j) z
theorem filN_zero {α : Type} (z : α) (xs : List α) (n : Nat) : filN z xs 0 n = List.replicate n z := by simp [filN]
theorem filN_all {α : Type} (z : α) (xs : List α) (n : Nat) : filN z xs n n = xs.take n := by simp [filN]
theorem filN_set {α : Type} (z : α) (xs : List α) (j n : Nat) (hj : j < n) (hx : j < xs.length) : (filN z xs j n).set j (xs.getD j z) = filN z xs (j + 1) n := by
  unfold filN
  have hl : (xs.take j).length = j := by simp; omega
  rw [List.set_append_right _ _ (by omega), hl, Nat.sub_self, show n - j = (n - (j + 1)) + 1 by omega, List.replicate_succ, List.set_cons_zero, List.take_succ_eq_append_getElem hx, List.getD_eq_getElem?_getD, List.getElem?_eq_getElem hx]
  simp only [Option.getD_some, List.append_assoc, List.singleton_append]
theorem getD_drop {α : Type} (z : α) (xs : List α) (i j : Nat) : (xs.drop i).getD j z = xs.getD (i + j) z := by
  rw [List.getD_eq_getElem?_getD, List.getD_eq_getElem?_getD, List.getElem?_drop]
theorem ite_t {α : Type} {b : Bool} {x y : α} (h : b = true) : (bif b then x else y) = x := by rw [h]; rfl
theorem ite_f {α : Type} {b : Bool} {x y : α} (h : b = false) : (bif b then x else y) = y := by rw [h]; rfl
/-- f on the first j -/
def upN {α : Type} (f : α → α) (l : List α) (j : Nat) : List α := (l.take j).map f ++ l.drop j
theorem upN_zero {α : Type} (f : α → α) (l : List α) : upN f l 0 = l := by simp [upN]
theorem upN_all {α : Type} (f : α → α) (l : List α) (j : Nat) (h : l.length ≤ j) : upN f l j = l.map f := by
  unfold upN; rw [List.take_of_length_le h, List.drop_of_length_le h, List.append_nil]
theorem upN_set {α : Type} (z : α) (f : α → α) (l : List α) (j : Nat) (h : j < l.length) : (upN f l j).set j (f ((upN f l j).getD j z)) = upN f l (j + 1) := by
  have hl : ((l.take j).map f).length = j := by simp; omega
  have hg : (upN f l j).getD j z = l[j] := by
    unfold upN
    rw [List.getD_eq_getElem?_getD, List.getElem?_append_right (by omega), hl, Nat.sub_self, List.getElem?_drop, Nat.add_zero, List.getElem?_eq_getElem h]
    rfl
  rw [hg]
  unfold upN
  rw [List.set_append_right _ _ (by omega), hl, Nat.sub_self, List.drop_eq_getElem_cons h, List.set_cons_zero, List.take_succ_eq_append_getElem h, List.map_append]
  simp only [List.map_cons, List.map_nil, List.append_assoc, List.singleton_append]
/-- a law's walk: what came in, what is handed back -/
theorem law_of {P : Program} {I : World → Prop} {f : FuncId} {F : Ct} {args : List AV} {H : Hp} {g : List Prop} {objs : List Oj} {ρ : Pls} {w : World} {vals : List Value} (h : FnOk P I f F) (hF : F args H = some (g, .c (.s (.b true)), objs)) (hg : allP g)
    (hI : I w) (hp : HpR ρ w H) (ha : F2 (avR ρ) args vals) : Calls P f vals.toArray w (Ret fun v w' => Ext w w' ∧ v = .bool true) :=
  calls_mono (h.ct args H g _ objs hF hg ρ w vals hI hp ha) fun _ _ ⟨hx, _, hL⟩ => ⟨hx, hL.val⟩
theorem in_b {w : World} {B : Nat} {v : Value} {l : List UInt8} (hv : Sl w B v (l.map bU)) (e : TypeId) : ∃ p, InSl w e l.length (.b l) v p := by
  have h := sl_slr hv
  rw [List.length_map] at h
  exact in_sl h (fun ρ => csR_b.2 rfl) e
theorem in_w {w : World} {B : Nat} {v : Value} {l : List UInt32} (hv : Sl w B v (l.map w32)) (e : TypeId) : ∃ p, InSl w e l.length (.w l) v p := by
  have h := sl_slr hv
  rw [List.length_map] at h
  exact in_sl h (fun ρ => csR_w.2 rfl) e
end Go.Sx
