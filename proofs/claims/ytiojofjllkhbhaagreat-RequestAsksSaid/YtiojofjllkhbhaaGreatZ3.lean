import Derived.Test.YtiojofjllkhbhaaGreatZ2
import Derived.Test.YtiojofjllkhbhaaGreatProg
import Derived.Shelf.RegionOpenPlain
import Derived.WalkKit
import Derived.Deep.LoopGhost
import Derived.Lib.Walk
import Derived.Sort.WalkB12
import Derived.Lib.SlicesMore
import Derived.Lib.Strings
import Derived.Lib.Bytealg
import Derived.BigCall
import Derived.Lib.OthersKept
import Derived.Lib.TrimU
import Derived.Lib.DecodeN
import Derived.Deep.Draws
import Derived.Shelf.Abstract
set_option linter.unusedVariables false
set_option linter.unusedSimpArgs false
section
namespace Go.Sx
open Go.RowKit Go.Ch
abbrev CtA := List AV → Hp → List Nat → List Nat → Option (List Prop × AV × List (Nat × Oj) × List Oj)
def cmc {α : Type} (rd : Hp → AV → Option α) (k : α → CtA) : CtA := fun args H gs ks => match args with | x :: xs => (match rd H x with | some a => k a xs H gs ks | none => none) | [] => none
def notIn (l : List Nat) (i : Nat) : Bool := match l with | [] => true | j :: r => !Nat.beq i j && notIn r i
def disj : List Nat → List Nat → Bool
 | [], _ => true
 | i :: r, l => notIn l i && disj r l
def nodupB : List Nat → Bool
 | [] => true
 | i :: r => notIn r i && nodupB r
def idA : AV → List Nat
 | .c (.wh i) => [i]
 | .c (.sl i _ _) => [i]
 | .c (.dv i _) => [i]
 | .c (.gi i _) => [i]
 | _ => []
def cmb (k : List UInt8 → CtA) : CtA := fun args H gs ks => match args with | x :: xs => (match aB H x, disj (idA x) (gs ++ ks) with | some a, true => k a xs H gs ks | _, _ => none) | [] => none
theorem notIn_ok : ∀ {l : List Nat} {i : Nat}, notIn l i = true → i ∉ l
 | [], _, _, h => by cases h
 | j :: r, i, hn, h => by
  simp only [notIn, Bool.and_eq_true, Bool.not_eq_true'] at hn
  rcases List.mem_cons.1 h with rfl | h
  ·simp at hn
  ·exact notIn_ok hn.2 h
theorem disj_ok : ∀ {l r : List Nat}, disj l r = true → ∀ i, i ∈ l → i ∉ r
 | [], _, _, i, h => by cases h
 | j :: l, r, hd, i, h => by
  simp only [disj, Bool.and_eq_true] at hd
  rcases List.mem_cons.1 h with rfl | h
  ·exact notIn_ok hd.1
  ·exact disj_ok hd.2 i h
theorem nodupB_ok : ∀ {l : List Nat}, nodupB l = true → ∀ (i j k : Nat), l[i]? = some k → l[j]? = some k → i = j
 | [], _, i, _, k, h, _ => by simp at h
 | x :: l, hn, i, j, k, h1, h2 => by
  simp only [nodupB, Bool.and_eq_true] at hn
  cases i with
  | zero => cases j with
   | zero => rfl
   | succ j =>
    simp only [List.getElem?_cons_zero, List.getElem?_cons_succ, Option.some.injEq] at h1 h2
    subst h1
    exact absurd (List.mem_of_getElem? h2) (notIn_ok hn.1)
  | succ i => cases j with
   | zero =>
    simp only [List.getElem?_cons_zero, List.getElem?_cons_succ, Option.some.injEq] at h1 h2
    subst h2
    exact absurd (List.mem_of_getElem? h1) (notIn_ok hn.1)
   | succ j => rw [nodupB_ok hn.2 i j k (by simpa using h1) (by simpa using h2)]
structure MRd (α : Type) where
 rd : Hp → AV → Option α
 ix : Hp → AV → List Nat
 os : Nat → α → List Oj
 ok : ∀ {ρ : Pls} {w : World} {H : Hp} {x : AV} {a : α} {v : Value}, HpR ρ w H → rd H x = some a → avR ρ x v → (∃ i l, ix H x = i :: l) ∧ ∀ k, (os k a).length = (ix H x).length ∧
  (∀ (j : Nat) (o : Oj) (i : Nat), (os k a)[j]? = some o → (ix H x)[j]? = some i → ∃ o', H[i]? = some o' ∧ o'.own = true ∧ o.own = true ∧ o.n = o'.n ∧ o.sz = o'.sz ∧ ∀ g, objAt (ρ i) o g → objAt (ρ i) o' g) ∧
  ∀ ρ' : Pls, (∀ (j i : Nat), (ix H x)[j]? = some i → ρ' (k + j) = ρ i) → (∀ (j : Nat) (o : Oj) (i : Nat), (os k a)[j]? = some o → (ix H x)[j]? = some i → objR ρ' w (ρ i) o) ∧ avR ρ' (kP k 0) v
def cmm {α : Type} (m : MRd α) (k : α → CtA) : CtA := fun args H gs ks => match args with
 | x :: xs => (match m.rd H x, m.ix H x with
  | some a, i :: l => (match disj (i :: l) (gs ++ ks) && nodupB (i :: l) with | true => k a xs H (gs ++ [i]) (ks ++ l) | false => none)
  | _, _ => none)
 | [] => none
structure MC (α : Type) where
 rd : Hp → Cl → Option α
 ix : Hp → Cl → List Nat
 cl : Nat → α → Cl
 os : Nat → α → List Oj
 ok : ∀ {ρ : Pls} {w : World} {H : Hp} {x : Cl} {a : α} {v : Value}, HpR ρ w H → rd H x = some a → clR ρ x v → ∀ k : Nat, (os k a).length = (ix H x).length ∧
  (∀ (j : Nat) (o : Oj) (i : Nat), (os k a)[j]? = some o → (ix H x)[j]? = some i → ∃ o', H[i]? = some o' ∧ o'.own = true ∧ o.own = true ∧ o.n = o'.n ∧ o.sz = o'.sz ∧ ∀ g, objAt (ρ i) o g → objAt (ρ i) o' g) ∧
  ∀ (ρ' : Pls), (∀ (j i : Nat), (ix H x)[j]? = some i → ρ' (k + j) = ρ i) → (∀ (j : Nat) (o : Oj) (i : Nat), (os k a)[j]? = some o → (ix H x)[j]? = some i → objR ρ' w (ρ i) o) ∧ clR ρ' (cl k a) v
abbrev mI : MC Int := ⟨fun _ c => match c with | .s (.k .i64 n) => some n | _ => none, fun _ _ => [], fun _ n => .s (.k .i64 n), fun _ _ => [], fun {ρ w H x a v} _ h hv => by
 split at h
 ·injection h with h; subst h; exact fun k => ⟨rfl, fun j o i ho => by simp at ho, fun ρ' _ => ⟨fun j o i ho => by simp at ho, hv⟩⟩
 ·cases h⟩
abbrev mU8 : MC UInt8 := ⟨fun _ c => match c with | .s (.u8 n) => some n | _ => none, fun _ _ => [], fun _ n => .s (.u8 n), fun _ _ => [], fun {ρ w H x a v} _ h hv => by
 split at h
 ·injection h with h; subst h; exact fun k => ⟨rfl, fun j o i ho => by simp at ho, fun ρ' _ => ⟨fun j o i ho => by simp at ho, hv⟩⟩
 ·cases h⟩
abbrev mE0 (t : TypeId) : MC Unit := ⟨fun _ c => match c with | .s (.v .nilIface) => some () | .s (.er _ _ none) => some () | _ => none, fun _ _ => [], fun _ _ => .s (.er t .i64 none), fun _ _ => [], fun {ρ w H x a v} _ h hv => by
 split at h
 ·exact fun k => ⟨rfl, fun j o i ho => by simp at ho, fun ρ' _ => ⟨fun j o i ho => by simp at ho, hv⟩⟩
 ·exact fun k => ⟨rfl, fun j o i ho => by simp at ho, fun ρ' _ => ⟨fun j o i ho => by simp at ho, hv⟩⟩
 ·cases h⟩
def rowB (H : Hp) (e : TypeId) (c : Cl) : Option (List UInt8) := match c with
 | .wh i => (match H[i]? with | some o => (match o.kd, Nat.beq o.e e, o.sz, o.cs with | .row, true, 1, .b l => some l | _, _, _, _ => none) | none => none)
 | _ => none
def rowZ (H : Hp) (e : TypeId) (c : Cl) : Option (List Int) := match c with
 | .wh i => (match H[i]? with | some o => (match o.kd, Nat.beq o.e e, o.sz, o.cs with | .row, true, 1, .z l => some l | _, _, _, _ => none) | none => none)
 | _ => none
def ixC : Cl → List Nat
 | .wh i => [i]
 | _ => []
theorem row_n {ρ : Pls} {w : World} {p : Pl} {o : Oj} (h : objR ρ w p o) (hk : o.kd = .row) (hs : o.sz = 1) : o.n = o.cs.cl.length := by
 unfold objR at h
 simp only [hk] at h
 have := h.1.2.2
 rw [hs] at this; omega
theorem row_one {ρ : Pls} {w : World} {H : Hp} {i : Nat} {o : Oj} {v : Value} (hp : HpR ρ w H) (ho : H[i]? = some o) (hown : o.own = true) (hlt : ltX 0 o.cs = true) (hv : clR ρ (.wh i) v) : ∀ k : Nat, [o].length = (ixC (.wh i)).length ∧
  (∀ (j : Nat) (o1 : Oj) (i1 : Nat), [o][j]? = some o1 → (ixC (.wh i))[j]? = some i1 → ∃ o', H[i1]? = some o' ∧ o'.own = true ∧ o1.own = true ∧ o1.n = o'.n ∧ o1.sz = o'.sz ∧ ∀ g, objAt (ρ i1) o1 g → objAt (ρ i1) o' g) ∧
  ∀ (ρ' : Pls), (∀ (j i1 : Nat), (ixC (.wh i))[j]? = some i1 → ρ' (k + j) = ρ i1) → (∀ (j : Nat) (o1 : Oj) (i1 : Nat), [o][j]? = some o1 → (ixC (.wh i))[j]? = some i1 → objR ρ' w (ρ i1) o1) ∧ clR ρ' (.wh k) v := fun k => by
 have one : ∀ {j : Nat} {o1 : Oj} {i1 : Nat}, [o][j]? = some o1 → (ixC (.wh i))[j]? = some i1 → o1 = o ∧ i1 = i := fun {j o1 i1} h1 h2 => by
  cases j with
  | zero => simp only [ixC, List.getElem?_cons_zero, Option.some.injEq] at h1 h2; exact ⟨h1.symm, h2.symm⟩
  | succ j => simp at h1
 refine ⟨rfl, fun j o1 i1 h1 h2 => ?_, fun ρ' hk => ⟨fun j o1 i1 h1 h2 => ?_, ?_⟩⟩
 ·obtain ⟨rfl, rfl⟩ := one h1 h2
  exact ⟨_, ho, hown, hown, rfl, rfl, fun g h => h⟩
 ·obtain ⟨rfl, rfl⟩ := one h1 h2
  exact objR_lt (ρ' := ρ') (m := 0) (fun i hi => absurd hi (Nat.not_lt_zero i)) (fun _ => hlt) (hp _ _ ho)
 ·have := hk 0 i rfl
  rw [Nat.add_zero] at this
  show v = _
  rw [this]; exact hv
abbrev mB (e : TypeId) : MC (List UInt8) := ⟨fun H c => rowB H e c, fun _ => ixC, fun k _ => .wh k, fun _ l => [nb e l], fun {ρ w H x a v} hp h hv => by
 unfold rowB at h
 split at h
 ·rename_i i
  split at h
  ·rename_i o ho
   split at h
   ·rename_i l h1 h2 h3 h4
    injection h with h; subst h
    have hn := row_n (hp i o ho) h1 h3
    have e2 := Nat.eq_of_beq_eq_true h2
    have en : o.n = l.length := by rw [hn, h4]; simp [Cs.cl]
    have eo : o = nb e l := by
     obtain ⟨kd, e', sz, n, cs⟩ := o
     simp only at h1 h2 h3 h4 en e2
     subst h1; subst h3; subst h4; subst en; subst e2; rfl
    subst eo
    exact row_one hp ho rfl rfl hv
   ·cases h
  ·cases h
 ·cases h⟩
abbrev mZ (e : TypeId) : MC (List Int) := ⟨fun H c => rowZ H e c, fun _ => ixC, fun k _ => .wh k, fun _ l => [nz e l], fun {ρ w H x a v} hp h hv => by
 unfold rowZ at h
 split at h
 ·rename_i i
  split at h
  ·rename_i o ho
   split at h
   ·rename_i l h1 h2 h3 h4
    injection h with h; subst h
    have hn := row_n (hp i o ho) h1 h3
    have e2 := Nat.eq_of_beq_eq_true h2
    have en : o.n = l.length := by rw [hn, h4]; simp [Cs.cl]
    have eo : o = nz e l := by
     obtain ⟨kd, e', sz, n, cs⟩ := o
     simp only at h1 h2 h3 h4 en e2
     subst h1; subst h3; subst h4; subst en; subst e2; rfl
    subst eo
    exact row_one hp ho rfl rfl hv
   ·cases h
  ·cases h
 ·cases h⟩
structure ML (α : Type) where
 n : Nat
 rd : Hp → List Cl → Option α
 ix : Hp → List Cl → List Nat
 cl : Nat → α → List Cl
 os : Nat → α → List Oj
 ok : ∀ {ρ : Pls} {w : World} {H : Hp} {x : List Cl} {a : α} {v : List Value}, HpR ρ w H → rd H x = some a → F2 (clR ρ) x v → x.length = n ∧ ∀ k : Nat, (cl k a).length = n ∧ (os k a).length = (ix H x).length ∧
  (∀ (j : Nat) (o : Oj) (i : Nat), (os k a)[j]? = some o → (ix H x)[j]? = some i → ∃ o', H[i]? = some o' ∧ o'.own = true ∧ o.own = true ∧ o.n = o'.n ∧ o.sz = o'.sz ∧ ∀ g, objAt (ρ i) o g → objAt (ρ i) o' g) ∧
  ∀ (ρ' : Pls), (∀ (j i : Nat), (ix H x)[j]? = some i → ρ' (k + j) = ρ i) → (∀ (j : Nat) (o : Oj) (i : Nat), (os k a)[j]? = some o → (ix H x)[j]? = some i → objR ρ' w (ρ i) o) ∧ F2 (clR ρ') (cl k a) v
abbrev mN : ML Unit := ⟨0, fun _ x => match x with | [] => some () | _ => none, fun _ _ => [], fun _ _ => [], fun _ _ => [], fun {ρ w H x a v} _ h hv => by
 cases x with
 | nil => exact ⟨rfl, fun k => ⟨rfl, rfl, fun j o i ho => by simp at ho, fun ρ' _ => ⟨fun j o i ho => by simp at ho, hv.1, fun j x y hx => by simp at hx⟩⟩⟩
 | cons y ys => cases h⟩
theorem parts_at {α : Type} {xs ys : List α} {j : Nat} {o : α} (h : (xs ++ ys)[j]? = some o) : (j < xs.length ∧ xs[j]? = some o) ∨ (xs.length ≤ j ∧ ys[j - xs.length]? = some o) := by
 by_cases hj : j < xs.length
 ·rw [List.getElem?_append_left hj] at h; exact .inl ⟨hj, h⟩
 ·rw [List.getElem?_append_right (by omega)] at h; exact .inr ⟨by omega, h⟩
abbrev mC {α β : Type} (c : MC α) (l : ML β) : ML (α × β) := ⟨l.n + 1, fun H x => match x with | y :: ys => (match c.rd H y with | some a => (match l.rd H ys with | some b => some (a, b) | none => none) | none => none) | [] => none,
 fun H x => match x with | y :: ys => c.ix H y ++ l.ix H ys | [] => [], fun k p => c.cl k p.1 :: l.cl (k + (c.os k p.1).length) p.2, fun k p => c.os k p.1 ++ l.os (k + (c.os k p.1).length) p.2, fun {ρ w H x a v} hp h hv => by
  cases x with
  | nil => cases h
  | cons y ys =>
   dsimp only at h
   split at h
   ·rename_i a1 h1
    split at h
    ·rename_i b1 h2
     injection h with h; subst h
     obtain ⟨u, us, rfl, hu, hus⟩ := hv.uncons
     have hc := c.ok hp h1 hu
     obtain ⟨d0, hd⟩ := l.ok hp h2 hus
     refine ⟨by simp [d0], fun k => ?_⟩
     obtain ⟨c1, c2, c3⟩ := hc k
     obtain ⟨d1, d2, d3, d4⟩ := hd (k + (c.os k a1).length)
     have par : ∀ {j : Nat} {o : Oj} {i : Nat}, (c.os k a1 ++ l.os (k + (c.os k a1).length) b1)[j]? = some o → (c.ix H y ++ l.ix H ys)[j]? = some i → ((c.os k a1)[j]? = some o ∧ (c.ix H y)[j]? = some i) ∨ ((l.os (k + (c.os k a1).length) b1)[j - (c.os k a1).length]? = some o ∧ (l.ix H ys)[j - (c.os k a1).length]? = some i) := by
      intro j o i ho hi
      rcases parts_at ho with ⟨e1, e2⟩ | ⟨e1, e2⟩
      ·rcases parts_at hi with ⟨e3, e4⟩ | ⟨e3, _⟩
       ·exact .inl ⟨e2, e4⟩
       ·omega
      ·rcases parts_at hi with ⟨e3, _⟩ | ⟨e3, e4⟩
       ·omega
       ·exact .inr ⟨e2, by rw [c1]; exact e4⟩
     refine ⟨by simp [d1], by show (c.os k a1 ++ l.os (k + (c.os k a1).length) b1).length = (c.ix H y ++ l.ix H ys).length; rw [List.length_append, d2, c1, List.length_append], fun j o i ho hi => ?_, fun ρ' hk => ?_⟩
     ·rcases par ho hi with ⟨e1, e2⟩ | ⟨e1, e2⟩
      ·exact c2 j o i e1 e2
      ·exact d3 _ o i e1 e2
     ·obtain ⟨k1, k2⟩ := c3 ρ' fun j i hi => hk j i (by rw [List.getElem?_append_left (List.getElem?_eq_some_iff.1 hi).1]; exact hi)
      obtain ⟨k3, k4⟩ := d4 ρ' fun j i hi => by
       rw [Nat.add_assoc]
       refine hk _ i ?_
       rw [List.getElem?_append_right (by rw [c1]; omega), c1, Nat.add_sub_cancel_left]; exact hi
      refine ⟨fun j o i ho hi => ?_, F2.cons k2 k4⟩
      rcases par ho hi with ⟨e1, e2⟩ | ⟨e1, e2⟩
      ·exact k1 j o i e1 e2
      ·exact k3 _ o i e1 e2
    ·cases h
   ·cases h⟩
def rowL (H : Hp) (e : TypeId) (sz n i : Nat) : Option (List Cl) := match H[i]? with
 | some o => (match o.kd, Nat.beq o.e e, Nat.beq o.sz sz, Nat.beq o.n n, o.cs with | .row, true, true, true, .c l => some l | _, _, _, _, _ => none)
 | none => none
def whI : Cl → Option Nat
 | .wh i => some i
 | _ => none
abbrev mR {α : Type} (e : TypeId) (sz n : Nat) (l : ML α) : MC α := ⟨fun H c => match whI c with | some i => (match rowL H e sz n i with | some cs => l.rd H cs | none => none) | none => none,
 fun H c => match whI c with | some i => (match rowL H e sz n i with | some cs => i :: l.ix H cs | none => []) | none => [],
 fun k _ => .wh k, fun k a => ⟨.row, e, sz, n, .c (l.cl (k + 1) a)⟩ :: l.os (k + 1) a, fun {ρ w H x a v} hp h hv => by
  split at h
  ·rename_i i hi
   split at h
   ·rename_i cs hcs
    have hcs0 := hcs
    unfold rowL at hcs
    split at hcs
    ·rename_i o ho
     split at hcs
     ·rename_i cs2 h1 h2 h3 h4 h5
      injection hcs with hcs; subst hcs
      have hr := hp i o ho
      unfold objR at hr
      simp only [h1] at hr
      obtain ⟨⟨e1, e2, e3⟩, vs, hc, hB⟩ := hr
      have hcl : F2 (clR ρ) cs2 vs := by rw [h5] at hc; exact hc
      obtain ⟨d0, hd⟩ := l.ok hp h hcl
      have hoe := Nat.eq_of_beq_eq_true h2
      have hos := Nat.eq_of_beq_eq_true h3
      have hon := Nat.eq_of_beq_eq_true h4
      have hln : l.n = n * sz := by rw [← d0, ← hos, ← hon, ← e3, h5]; rfl
      intro k
      obtain ⟨d1, d2, d3, d4⟩ := hd (k + 1)
      refine ⟨by simp [d2], fun j o' i' ho' hi' => ?_, fun ρ' hk => ?_⟩
      ·cases j with
       | zero =>
        simp only [List.getElem?_cons_zero, Option.some.injEq] at ho' hi'
        subst ho'; subst hi'
        refine ⟨o, ho, by unfold Oj.own; rw [h1], rfl, hon.symm, hos.symm, fun g hg => ?_⟩
        unfold objAt at hg ⊢
        simp only [h1]; exact hg
       | succ j => exact d3 j o' i' (by simpa using ho') (by simpa using hi')
      ·obtain ⟨k1, k2⟩ := d4 ρ' fun j i hi => by
        have := hk (j + 1) i (by simpa using hi)
        rw [Nat.add_assoc, Nat.add_comm 1 j]; exact this
       refine ⟨fun j o' i' ho' hi' => ?_, ?_⟩
       ·cases j with
        | zero =>
         simp only [List.getElem?_cons_zero, Option.some.injEq] at ho' hi'
         subst ho'; subst hi'
         unfold objR
         exact ⟨⟨by rw [e1, hos], by rw [e2, hon], by show (l.cl (k + 1) a).length = n * sz; rw [d1, hln]⟩, vs, k2, by rw [← hoe, ← hos]; exact hB⟩
        | succ j => exact k1 j o' i' (by simpa using ho') (by simpa using hi')
       ·have hx : x = .wh i := by
         unfold whI at hi
         split at hi
         ·injection hi with hi; subst hi; rfl
         ·cases hi
        subst hx
        have := hk 0 i rfl
        rw [Nat.add_zero] at this
        show v = _
        rw [this]; exact hv
     ·cases hcs
    ·cases hcs
   ·cases h
  ·cases h⟩
def blkC (H : Hp) (e : TypeId) (n i : Nat) : Option (List Cl) := match H[i]? with
 | some o => (match o.kd, Nat.beq o.e e, o.sz, Nat.beq o.n n, o.cs with | .blk, true, 1, true, .c l => some l | _, _, _, _, _ => none)
 | none => none
def ptQ : Cl → Option Nat
 | .pt i 0 => some i
 | _ => none
abbrev mBo : MC Bool := ⟨fun _ c => aBo (.c c), fun _ _ => [], fun _ n => .s (.b n), fun _ _ => [], fun {ρ w H x a v} _ h hv => fun k => ⟨rfl, fun j o i ho => by simp at ho, fun ρ' _ => ⟨fun j o i ho => by simp at ho, aBo_ok (ρ := ρ) h hv⟩⟩⟩
abbrev mQ {α : Type} (e : TypeId) (l : ML α) : MC α := ⟨fun H c => match ptQ c with | some i => (match blkC H e l.n i with | some cs => l.rd H cs | none => none) | none => none,
 fun H c => match ptQ c with | some i => (match blkC H e l.n i with | some cs => i :: l.ix H cs | none => []) | none => [],
 fun k _ => .pt k 0, fun k a => ⟨.blk, e, 1, l.n, .c (l.cl (k + 1) a)⟩ :: l.os (k + 1) a, fun {ρ w H x a v} hp h hv => by
  split at h
  ·rename_i i hi
   split at h
   ·rename_i cs hcs
    have hcs0 := hcs
    unfold blkC at hcs
    split at hcs
    ·rename_i o ho
     split at hcs
     ·rename_i cs2 h1 h2 h3 h4 h5
      injection hcs with hcs; subst hcs
      have hr := hp i o ho
      unfold objR at hr
      simp only [h1] at hr
      obtain ⟨⟨e1, e2, e3⟩, b, vs, hA, hc, hB⟩ := hr
      have hcl : F2 (clR ρ) cs2 vs := by rw [h5] at hc; exact hc
      obtain ⟨d0, hd⟩ := l.ok hp h hcl
      have hoe := Nat.eq_of_beq_eq_true h2
      have hon := Nat.eq_of_beq_eq_true h4
      intro k
      obtain ⟨d1, d2, d3, d4⟩ := hd (k + 1)
      refine ⟨by simp [d2], fun j o' i' ho' hi' => ?_, fun ρ' hk => ?_⟩
      ·cases j with
       | zero =>
        simp only [List.getElem?_cons_zero, Option.some.injEq] at ho' hi'
        subst ho'; subst hi'
        refine ⟨o, ho, by unfold Oj.own; rw [h1], rfl, hon.symm, h3.symm, fun g hg => ?_⟩
        unfold objAt at hg ⊢
        simp only [h1]; exact hg
       | succ j => exact d3 j o' i' (by simpa using ho') (by simpa using hi')
      ·obtain ⟨k1, k2⟩ := d4 ρ' fun j i hi => by
        have := hk (j + 1) i (by simpa using hi)
        rw [Nat.add_assoc, Nat.add_comm 1 j]; exact this
       refine ⟨fun j o' i' ho' hi' => ?_, ?_⟩
       ·cases j with
        | zero =>
         simp only [List.getElem?_cons_zero, Option.some.injEq] at ho' hi'
         subst ho'; subst hi'
         unfold objR
         exact ⟨⟨by rw [e1, h3], by rw [e2, hon], by show (l.cl (k + 1) a).length = l.n * 1; rw [d1]; omega⟩, b, vs, hA, k2, by rw [← hoe]; exact hB⟩
        | succ j => exact k1 j o' i' (by simpa using ho') (by simpa using hi')
       ·have hx : x = .pt i 0 := by
         unfold ptQ at hi
         split at hi
         ·injection hi with hi; subst hi; rfl
         ·cases hi
        subst hx
        obtain ⟨g0, ad, g1, rfl⟩ := hv
        have := hk 0 i rfl
        rw [Nat.add_zero] at this
        exact ⟨by rw [this]; exact g0, ad, by rw [this]; exact g1, rfl⟩
     ·cases hcs
    ·cases hcs
   ·cases h
  ·cases h⟩
def ptI : AV → Option Nat
 | .c (.pt i 0) => some i
 | _ => none
abbrev mP {α : Type} (e : TypeId) (l : ML α) : MRd α := ⟨fun H x => match ptI x with | some i => (match blkC H e l.n i with | some cs => l.rd H cs | none => none) | none => none,
 fun H x => match ptI x with | some i => (match blkC H e l.n i with | some cs => i :: l.ix H cs | none => []) | none => [],
 fun k a => ⟨.blk, e, 1, l.n, .c (l.cl (k + 1) a)⟩ :: l.os (k + 1) a, fun {ρ w H x a v} hp h hv => by
  split at h
  ·rename_i i hi
   split at h
   ·rename_i cs hcs
    have hcs0 := hcs
    unfold blkC at hcs
    split at hcs
    ·rename_i o ho
     split at hcs
     ·rename_i cs2 h1 h2 h3 h4 h5
      injection hcs with hcs; subst hcs
      have hr := hp i o ho
      unfold objR at hr
      simp only [h1] at hr
      obtain ⟨⟨e1, e2, e3⟩, b, vs, hA, hc, hB⟩ := hr
      have hcl : F2 (clR ρ) cs2 vs := by rw [h5] at hc; exact hc
      obtain ⟨d0, hd⟩ := l.ok hp h hcl
      have hoe := Nat.eq_of_beq_eq_true h2
      have hon := Nat.eq_of_beq_eq_true h4
      refine ⟨⟨_, _, rfl⟩, fun k => ?_⟩
      obtain ⟨d1, d2, d3, d4⟩ := hd (k + 1)
      refine ⟨by simp [d2], fun j o' i' ho' hi' => ?_, fun ρ' hk => ?_⟩
      ·cases j with
       | zero =>
        simp only [List.getElem?_cons_zero, Option.some.injEq] at ho' hi'
        subst ho'; subst hi'
        refine ⟨o, ho, by unfold Oj.own; rw [h1], rfl, hon.symm, h3.symm, fun g hg => ?_⟩
        unfold objAt at hg ⊢
        simp only [h1]; exact hg
       | succ j => exact d3 j o' i' (by simpa using ho') (by simpa using hi')
      ·obtain ⟨k1, k2⟩ := d4 ρ' fun j i hi => by
        have := hk (j + 1) i (by simpa using hi)
        rw [Nat.add_assoc, Nat.add_comm 1 j]; exact this
       refine ⟨fun j o' i' ho' hi' => ?_, ?_⟩
       ·cases j with
        | zero =>
         simp only [List.getElem?_cons_zero, Option.some.injEq] at ho' hi'
         subst ho'; subst hi'
         unfold objR
         exact ⟨⟨by rw [e1, h3], by rw [e2, hon], by show (l.cl (k + 1) a).length = l.n * 1; rw [d1]; omega⟩, b, vs, hA, k2, by rw [← hoe]; exact hB⟩
        | succ j => exact k1 j o' i' (by simpa using ho') (by simpa using hi')
       ·have hx : x = .c (.pt i 0) := by
         unfold ptI at hi
         split at hi
         ·injection hi with hi; subst hi; rfl
         ·cases hi
        subst hx
        obtain ⟨g0, ad, g1, rfl⟩ := hv
        have := hk 0 i rfl
        rw [Nat.add_zero] at this
        exact ⟨by rw [this]; exact g0, ad, by rw [this]; exact g1, rfl⟩
     ·cases hcs
    ·cases hcs
   ·cases h
  ·cases h⟩
structure HmI (mm : Bool) (ρ : Pls) (w : World) (H : Hp) (az : List AV) (os : Hp) (gs ks : List Nat) (ps : List Pl) (v0 : List Value) : Prop where
 cnt : mm = true → gs.length = az.length
 len : os.length = ps.length
 val : ∀ ρ' : Pls, Pat ps 0 ρ' → (∀ (j : Nat) (o : Oj) (p : Pl), os[j]? = some o → ps[j]? = some p → objR ρ' w p o) ∧ F2 (avR ρ') az v0
 own : ∀ (j : Nat) (o : Oj) (p : Pl) (g : Nat), os[j]? = some o → ps[j]? = some p → objAt p o g → (o.own = true ∧ ∃ i o', i ∈ gs ++ ks ∧ H[i]? = some o' ∧ o'.own = true ∧ objAt (ρ i) o' g) ∨ (o.own = false ∧ o.fsh = false ∧ ∃ i o', i ∉ gs ++ ks ∧ H[i]? = some o' ∧ objAt (ρ i) o' g)
 sep : ∀ (i j : Nat) (a b : Oj) (p q : Pl) (g : Nat), i ≠ j → os[i]? = some a → os[j]? = some b → ps[i]? = some p → ps[j]? = some q → a.own = true → objAt p a g → ¬ objAt q b g
 gho : ∀ (q i : Nat), gs[q]? = some i → ∃ k o o', az[q]? = some (kP k 0) ∧ os[k]? = some o ∧ ps[k]? = some (ρ i) ∧ H[i]? = some o' ∧ o.n = o'.n ∧ o.sz = o'.sz
 ina : ∀ i, i ∈ gs ++ ks → ∃ o', H[i]? = some o' ∧ o'.own = true
 nod : ∀ (i j k : Nat), (gs ++ ks)[i]? = some k → (gs ++ ks)[j]? = some k → i = j
def HOM (mm : Bool) (P : Program) (f : FuncId) (F : CtA) (az : List AV) (os : Hp) : Prop :=
 ∀ (args : List AV) (H : Hp) (g : List Prop) (av : AV) (up : List (Nat × Oj)) (objs : List Oj) (gs ks : List Nat), F args H gs ks = some (g, av, up, objs) → allP g → ∀ (ρ : Pls) (w : World) (vals : List Value), HpR ρ w H → SepR ρ H → F2 (avR ρ) args vals →
  ∀ (ps : List Pl) (v0 : List Value), HmI mm ρ w H az os gs ks ps v0 →
   Calls P f (v0 ++ vals).toArray w (Ret fun v w' => Kp ⟨consB ρ H up, fun _ => undef, fun _ => False⟩ w w' ∧ ∃ ps pu, LeftM ρ w H av up objs v w' ps pu)
def allOwn : Hp → Bool
 | [] => true
 | o :: l => o.own && allOwn l
theorem allOwn_ok : ∀ {H : Hp}, allOwn H = true → ∀ (i : Nat) (o : Oj), H[i]? = some o → o.own = true
 | [], _, i, o, h => by simp at h
 | x :: l, h, i, o, ho => by
  simp only [allOwn, Bool.and_eq_true] at h
  cases i with
  | zero => simp at ho; subst ho; exact h.1
  | succ i => exact allOwn_ok h.2 i o (by simpa using ho)
section
variable {P : Program} {f : FuncId} {az : List AV} {os : Hp} {T : Tab}
theorem mem_perm {gs ks l : List Nat} {i k : Nat} : k ∈ (gs ++ [i]) ++ (ks ++ l) ↔ k ∈ gs ++ ks ∨ k ∈ i :: l := by
 simp only [List.mem_append, List.mem_cons, List.not_mem_nil, or_false]
 constructor
 ·rintro ((h | h) | (h | h)) <;> simp [h]
 ·rintro ((h | h) | (h | h)) <;> simp [h]
theorem nod_iff {l : List Nat} : (∀ (i j k : Nat), l[i]? = some k → l[j]? = some k → i = j) ↔ l.Nodup := by
 rw [List.Nodup, List.pairwise_iff_getElem]
 constructor
 ·intro h i j hi hj hij e
  have := h i j l[i] (List.getElem?_eq_getElem hi) (by rw [List.getElem?_eq_getElem hj]; exact congrArg some e.symm)
  omega
 ·intro h i j k hi hj
  obtain ⟨hi1, hi2⟩ := List.getElem?_eq_some_iff.1 hi
  obtain ⟨hj1, hj2⟩ := List.getElem?_eq_some_iff.1 hj
  rcases Nat.lt_trichotomy i j with hlt | he | hlt
  ·exact absurd (hi2.trans hj2.symm) (h i j hi1 hj1 hlt)
  ·exact he
  ·exact absurd (hj2.trans hi2.symm) (h j i hj1 hi1 hlt)
theorem HM_c {mm : Bool} {α : Type} (r : Rd α) {K : α → CtA} (h : ∀ a, r.pr a → HOM false P f (K a) (az ++ [r.op 0 a]) os) (h0 : ∀ k a, r.os k a = [] ∧ r.op k a = r.op 0 a := by exact fun _ _ => ⟨rfl, rfl⟩) : HOM mm P f (cmc r.rd K) az os := by
 intro args H g av up objs gs ks hF hg ρ w vals hp hs ha ps v0 hI
 cases args with
 | nil => cases hF
 | cons x xs =>
  simp only [cmc] at hF
  split at hF
  ·rename_i a hx
   obtain ⟨v, vs, rfl, hv, ha⟩ := F2.inv ha
   obtain ⟨hpr, qs, g1, k1⟩ := r.ok hp hx hv
   have hqs : qs = [] := List.eq_nil_of_length_eq_zero (by rw [← (g1 0).1, (h0 0 a).1]; rfl)
   subst hqs
   have := h a hpr xs H g av up objs gs ks hF hg ρ w vs hp hs ha ps (v0 ++ [v]) ⟨(fun h => nomatch h), hI.len, fun ρ' hk => ⟨(hI.val ρ' hk).1, F2.append (hI.val ρ' hk).2 (F2.cons ((k1 0 ρ' (fun j p hj => by simp at hj)).2) F2.nil)⟩, hI.own, hI.sep, fun q i hq => by
    obtain ⟨k, o, o', h1, h2⟩ := hI.gho q i hq
    exact ⟨k, o, o', by rw [List.getElem?_append_left (List.getElem?_eq_some_iff.1 h1).1]; exact h1, h2⟩, hI.ina, hI.nod⟩
   rw [List.append_assoc] at this
   exact this
  ·cases hF
theorem HM_m {α : Type} (m : MRd α) {K : α → CtA} (h : ∀ a, HOM true P f (K a) (az ++ [kP os.length 0]) (os ++ m.os os.length a)) (ho : ∀ (i : Nat) (o : Oj), os[i]? = some o → o.own = true) : HOM true P f (cmm m K) az os := by
 intro args H g av up objs gs ks hF hg ρ w vals hp hs ha ps v0 hI
 have hgn := hI.cnt rfl
 cases args with
 | nil => cases hF
 | cons x xs =>
   simp only [cmm] at hF
   split at hF
   ·rename_i a i l hx hix
    split at hF
    ·rename_i hck
     simp only [Bool.and_eq_true] at hck
     have hdj := disj_ok hck.1
     obtain ⟨v, vs, rfl, hv, ha⟩ := F2.inv ha
     obtain ⟨_, hk0⟩ := m.ok hp hx hv
     obtain ⟨e1, e2, e3⟩ := hk0 os.length
     rw [hix] at e1 e2 e3
     have hqat : ∀ {j p}, ((i :: l).map ρ)[j]? = some p → ∃ i', (i :: l)[j]? = some i' ∧ p = ρ i' := fun {j p} hj => by
      rw [List.getElem?_map] at hj
      cases hi : (i :: l)[j]? with
      | none => rw [hi] at hj; cases hj
      | some i' => rw [hi] at hj; injection hj with hj; exact ⟨i', hi, hj.symm⟩
     have hnod : ((gs ++ [i]) ++ (ks ++ l)).Nodup := by
      have h1 : (gs ++ ks).Nodup := nod_iff.1 hI.nod
      have h2 : (i :: l).Nodup := nod_iff.1 (nodupB_ok hck.2)
      have h3 : ((gs ++ ks) ++ (i :: l)).Nodup := by
       rw [List.nodup_append]
       exact ⟨h1, h2, fun a ha b hb e => by subst e; exact hdj a hb ha⟩
      refine List.Perm.nodup ?_ h3
      rw [List.append_assoc, List.append_assoc]
      refine List.Perm.append_left gs ?_
      show (ks ++ i :: l).Perm (i :: (ks ++ l))
      exact List.perm_middle
     have hpart : ∀ {j : Nat} {o : Oj} {p : Pl}, (os ++ m.os os.length a)[j]? = some o → (ps ++ (i :: l).map ρ)[j]? = some p → (j < os.length ∧ os[j]? = some o ∧ ps[j]? = some p) ∨ ∃ q i', j = os.length + q ∧ (m.os os.length a)[q]? = some o ∧ (i :: l)[q]? = some i' ∧ p = ρ i' := by
      intro j o p hoj hpj
      by_cases hj : j < os.length
      ·rw [List.getElem?_append_left hj] at hoj
       rw [List.getElem?_append_left (by rw [← hI.len]; exact hj)] at hpj
       exact .inl ⟨hj, hoj, hpj⟩
      ·rw [List.getElem?_append_right (by omega)] at hoj
       rw [List.getElem?_append_right (by rw [← hI.len]; omega), ← hI.len] at hpj
       obtain ⟨i', h1, h2⟩ := hqat hpj
       exact .inr ⟨j - os.length, i', by omega, hoj, h1, h2⟩
     have := h a xs H g av up objs (gs ++ [i]) (ks ++ l) hF hg ρ w vs hp hs ha (ps ++ (i :: l).map ρ) (v0 ++ [v]) ⟨fun _ => by simp [hgn], by rw [List.length_append, List.length_append, e1, List.length_map, hI.len], fun ρ' hk => ?_, fun j o p g hoj hpj hat => ?_, fun j k x y p q g hjk hx' hy' hp' hq' hox hat hat2 => ?_, fun q j hq' => ?_, fun j hj => ?_, nod_iff.2 hnod⟩
     ·rw [List.append_assoc] at this; exact this
     ·obtain ⟨v1, v2⟩ := hI.val ρ' (Pat.left hk)
      have hr := Pat.right hk hI.len
      rw [Nat.zero_add] at hr
      obtain ⟨w1, w2⟩ := e3 ρ' fun j i' hi' => hr j (ρ i') (by rw [List.getElem?_map, hi']; rfl)
      refine ⟨fun j o p hoj hpj => ?_, F2.append v2 (F2.cons w2 F2.nil)⟩
      rcases hpart hoj hpj with ⟨_, h1, h2⟩ | ⟨q, i', rfl, h1, h2, rfl⟩
      ·exact v1 j o p h1 h2
      ·exact w1 q o i' h1 h2
     ·rcases hpart hoj hpj with ⟨_, h1, h2⟩ | ⟨q, i', rfl, h1, h2, rfl⟩
      ·rcases hI.own j o p g h1 h2 hat with ⟨h3, i', o', h4, h5⟩ | ⟨h3, _⟩
       ·exact .inl ⟨h3, i', o', mem_perm.2 (.inl h4), h5⟩
       ·rw [ho j o h1] at h3; cases h3
      ·obtain ⟨o', h3, h4, h5, _, _, h6⟩ := e2 q o i' h1 h2
       exact .inl ⟨h5, i', o', mem_perm.2 (.inr (List.mem_of_getElem? h2)), h3, h4, h6 g hat⟩
     ·have cross : ∀ {j : Nat} {o : Oj} {p : Pl} {q : Nat} {o2 : Oj} {i' : Nat}, os[j]? = some o → ps[j]? = some p → objAt p o g → (m.os os.length a)[q]? = some o2 → (i :: l)[q]? = some i' → objAt (ρ i') o2 g → False := by
       intro j o p q o2 i' h1 h2 h3 h4 h5 h6
       rcases hI.own j o p g h1 h2 h3 with ⟨_, i2, o', h7, h8, h9, h10⟩ | ⟨h7, _⟩
       ·obtain ⟨o'', k1, k2, _, _, _, k3⟩ := e2 q o2 i' h4 h5
        refine hs i2 i' o' o'' g (fun e => ?_) h8 k1 h9 h10 (k3 g h6)
        subst e
        exact hdj i2 (List.mem_of_getElem? h5) h7
       ·rw [ho j o h1] at h7; cases h7
      rcases hpart hx' hp' with ⟨_, h1, h2⟩ | ⟨q1, i1, rfl, h1, h2, rfl⟩
      ·rcases hpart hy' hq' with ⟨_, h3, h4⟩ | ⟨q2, i2, rfl, h3, h4, rfl⟩
       ·exact hI.sep j k x y p q g hjk h1 h3 h2 h4 hox hat hat2
       ·exact cross h1 h2 hat h3 h4 hat2
      ·rcases hpart hy' hq' with ⟨_, h3, h4⟩ | ⟨q2, i2, rfl, h3, h4, rfl⟩
       ·exact cross h3 h4 hat2 h1 h2 hat
       ·obtain ⟨o1, k1, k2, _, _, _, k3⟩ := e2 q1 x i1 h1 h2
        obtain ⟨o2, k4, k5, _, _, _, k6⟩ := e2 q2 y i2 h3 h4
        refine hs i1 i2 o1 o2 g (fun e => ?_) k1 k4 k2 (k3 g hat) (k6 g hat2)
        subst e
        exact hjk (by rw [nodupB_ok hck.2 q1 q2 i1 h2 h4])
     ·by_cases hql : q < gs.length
      ·rw [List.getElem?_append_left hql] at hq'
       obtain ⟨k, o, o', h1, h2, h3, h4⟩ := hI.gho q j hq'
       exact ⟨k, o, o', by rw [List.getElem?_append_left (List.getElem?_eq_some_iff.1 h1).1]; exact h1, by rw [List.getElem?_append_left (List.getElem?_eq_some_iff.1 h2).1]; exact h2, by rw [List.getElem?_append_left (List.getElem?_eq_some_iff.1 h3).1]; exact h3, h4⟩
      ·have hq2 : q = gs.length := by
        have := (List.getElem?_eq_some_iff.1 hq').1
        simp at this; omega
       subst hq2
       rw [List.getElem?_append_right (Nat.le_refl _), Nat.sub_self] at hq'
       simp only [List.getElem?_cons_zero, Option.some.injEq] at hq'
       subst hq'
       have hpos : 0 < (m.os os.length a).length := by rw [e1]; simp
       obtain ⟨o', h3, _, _, h6, h7, _⟩ := e2 0 _ i (List.getElem?_eq_getElem hpos) rfl
       refine ⟨os.length, (m.os os.length a)[0], o', ?_, ?_, ?_, h3, h6, h7⟩
       ·rw [hgn, List.getElem?_append_right (Nat.le_refl _), Nat.sub_self]; rfl
       ·rw [List.getElem?_append_right (Nat.le_refl _), Nat.sub_self]; exact List.getElem?_eq_getElem hpos
       ·rw [hI.len, List.getElem?_append_right (Nat.le_refl _), Nat.sub_self]; rfl
     ·rcases mem_perm.1 hj with hj | hj
      ·exact hI.ina j hj
      ·obtain ⟨q, hq'⟩ := List.mem_iff_getElem?.1 hj
       have hlt : q < (m.os os.length a).length := by rw [e1]; exact (List.getElem?_eq_some_iff.1 hq').1
       obtain ⟨o', h3, h4, _⟩ := e2 q _ j (List.getElem?_eq_getElem hlt) hq'
       exact ⟨o', h3, h4⟩
    ·cases hF
   ·cases hF
theorem aB_at {ρ : Pls} {w : World} {H : Hp} (hp : HpR ρ w H) {x : AV} {l : List UInt8} (h : aB H x = some l) {v : Value} (hv : avR ρ x v) {p : Pl} (hpv : v = .slice p.A p.n p.cap) (h0 : 0 < p.n) {ad : Addr} (hA : p.A = some ad) : ∃ i o', i ∈ idA x ∧ H[i]? = some o' ∧ objAt (ρ i) o' ad.block := by
 cases x with
 | c c =>
  have hvb : viewB H c = some l := h
  cases c with
  | nils =>
   rw [show v = _ from hv] at hpv
   injection hpv with a1 a2 a3
   omega
  | wh i =>
   simp only [viewB] at hvb
   split at hvb
   ·rename_i o hl
    obtain ⟨h1, h2⟩ := liveS_ok hl
    obtain ⟨⟨e1, e2, e3⟩, _⟩ := (hp i o h1).read (nd h2)
    split at hvb
    ·rename_i hs hcs
     rw [show v = _ from hv] at hpv
     injection hpv with a1 a2 a3
     refine ⟨i, o, by simp [idA], h1, ?_⟩
     have hkd : ∀ b, o.kd ≠ .dp b := fun b hk => by
      have hr := hp i o h1
      unfold objR at hr
      simp only [hk] at hr
      unfold DpR at hr
      rw [hcs] at hr
      exact hr
     unfold objAt
     rcases h2 with ⟨b, h2⟩ | h2 | h2
     ·simp only [h2]; exact ⟨by rw [e1, hs]; omega, ad, a1.trans hA, rfl⟩
     ·simp only [h2]; exact ⟨ad, a1.trans hA, rfl⟩
     ·exact absurd h2 (fun ⟨b, e⟩ => hkd b e)
    ·cases hvb
   ·cases hvb
  | sl i lo n =>
   simp only [viewB] at hvb
   split at hvb
   ·rename_i o hl
    obtain ⟨h1, h2⟩ := liveS_ok hl
    obtain ⟨⟨e1, e2, e3⟩, _⟩ := (hp i o h1).read (nd h2)
    split at hvb
    ·rename_i hs hcs
     obtain ⟨k1, A, c, hve, k2, k3, k4, k5⟩ := hv
     rw [hve] at hpv
     injection hpv with a1 a2 a3
     have k6 := k5 (by omega)
     rw [a1, hA] at k6
     cases hA0 : (ρ i).A with
     | none => rw [hA0] at k6; cases k6
     | some ad0 =>
      rw [hA0] at k6
      injection k6 with k6
      refine ⟨i, o, by simp [idA], h1, ?_⟩
      have hkd : ∀ b, o.kd ≠ .dp b := fun b hk => by
       have hr := hp i o h1
       unfold objR at hr
       simp only [hk] at hr
       unfold DpR at hr
       rw [hcs] at hr
       exact hr
      have hb : ad0.block = ad.block := by rw [k6, block_add]
      unfold objAt
      rcases h2 with ⟨b, h2⟩ | h2 | h2
      ·simp only [h2]; exact ⟨by rw [e1, hs]; omega, ad0, hA0, hb⟩
      ·simp only [h2]; exact ⟨ad0, hA0, hb⟩
      ·exact absurd h2 (fun ⟨b, e⟩ => hkd b e)
    ·cases hvb
   ·cases hvb
  | dv i q =>
   simp only [viewB] at hvb
   split at hvb
   ·rename_i e t hd
    change List UInt8 at t
    obtain ⟨c, f, hc, A, cap, k1, k2, k3, k4, k5, k6⟩ := dvD_ok hp hd hv.2.1
    have hve : v = .slice A t.length cap := by rw [hv.1, ← hc]; exact k1
    rw [hve] at hpv
    injection hpv with a1 a2 a3
    have h7 := k5 ad (a1.trans hA) (by omega)
    unfold dvD at hd
    split at hd
    ·cases hd
    ·rename_i o ho
     split at hd
     ·rename_i x' l' hk hcs
      refine ⟨i, o, by simp [idA], ho, ?_⟩
      unfold objAt
      simp only [hk]; exact h7
     ·cases hd
   ·cases hvb
  | gi i k =>
   have hvb' : giD H i k = some l := hvb
   obtain ⟨A, cap, hve, k1, k2, k3, k5, k6⟩ := giD_ok hp hvb' hv
   rw [hve] at hpv
   injection hpv with a1 a2 a3
   have h7 := k5 ad (a1.trans hA) (by omega)
   unfold giD at hvb'
   split at hvb'
   ·rename_i o ho
    refine ⟨i, o, by simp [idA], ho, ?_⟩
    unfold objAt
    split at hvb'
    ·rename_i hk hc; simp only [hk]; exact h7
    ·rename_i hk hc; simp only [hk]; exact h7
    ·cases hvb'
   ·cases hvb'
  | _ => cases hvb
 | _ => cases h
theorem HM_b {mm : Bool} (e : TypeId) {K : List UInt8 → CtA} (h : ∀ l, HOM false P f (K l) (az ++ [kH os.length]) (os ++ [ob e l])) : HOM mm P f (cmb K) az os := by
 intro args H g av up objs gs ks hF hg ρ w vals hp hs ha ps v0 hI
 cases args with
 | nil => cases hF
 | cons x xs =>
  simp only [cmb] at hF
  split at hF
  ·rename_i l hx hdj0
   have hdj := disj_ok hdj0
   obtain ⟨v, vs, rfl, hv, ha⟩ := F2.inv ha
   obtain ⟨p, hpv, hpo⟩ := aB_ok hp hx hv e
   have hat : ∀ g, objAt p (ob e l) g → ∃ i o', i ∉ gs ++ ks ∧ H[i]? = some o' ∧ objAt (ρ i) o' g := fun g hg => by
    obtain ⟨hn, ad, hA, rfl⟩ := hg
    obtain ⟨i, o', h1, h2, h3⟩ := aB_at hp hx hv hpv (Nat.pos_of_ne_zero fun e => hn (by rw [e, Nat.zero_mul])) hA
    exact ⟨i, o', hdj i h1, h2, h3⟩
   have hpart : ∀ {j : Nat} {o : Oj} {q : Pl}, (os ++ [ob e l])[j]? = some o → (ps ++ [p])[j]? = some q → (j < os.length ∧ os[j]? = some o ∧ ps[j]? = some q) ∨ (j = os.length ∧ o = ob e l ∧ q = p) := by
    intro j o q hoj hpj
    by_cases hj : j < os.length
    ·rw [List.getElem?_append_left hj] at hoj
     rw [List.getElem?_append_left (by rw [← hI.len]; exact hj)] at hpj
     exact .inl ⟨hj, hoj, hpj⟩
    ·have hj2 : j = os.length := by have := (List.getElem?_eq_some_iff.1 hoj).1; simp at this; omega
     subst hj2
     rw [List.getElem?_append_right (Nat.le_refl _), Nat.sub_self] at hoj
     rw [hI.len, List.getElem?_append_right (Nat.le_refl _), Nat.sub_self] at hpj
     simp only [List.getElem?_cons_zero, Option.some.injEq] at hoj hpj
     exact .inr ⟨rfl, hoj.symm, hpj.symm⟩
   have := h l xs H g av up objs gs ks hF hg ρ w vs hp hs ha (ps ++ [p]) (v0 ++ [v]) ⟨(fun h => nomatch h), by rw [List.length_append, List.length_append, hI.len]; rfl, fun ρ' hk => ?_, fun j o q g hoj hpj hg => ?_, fun j k x y q q' g hjk hx' hy' hp' hq' hox hat1 hat2 => ?_, fun q i hq => ?_, hI.ina, hI.nod⟩
   ·rw [List.append_assoc] at this; exact this
   ·obtain ⟨v1, v2⟩ := hI.val ρ' (Pat.left hk)
    have hr := Pat.right hk hI.len 0 p rfl
    rw [Nat.zero_add, Nat.add_zero] at hr
    refine ⟨fun j o q hoj hpj => ?_, F2.append v2 (F2.cons ?_ F2.nil)⟩
    ·rcases hpart hoj hpj with ⟨_, h1, h2⟩ | ⟨_, rfl, rfl⟩
     ·exact v1 j o q h1 h2
     ·exact hpo ρ'
    ·show v = _
     rw [hr]; exact hpv
   ·rcases hpart hoj hpj with ⟨_, h1, h2⟩ | ⟨_, rfl, rfl⟩
    ·exact hI.own j o q g h1 h2 hg
    ·exact .inr ⟨rfl, rfl, hat g hg⟩
   ·rcases hpart hx' hp' with ⟨_, h1, h2⟩ | ⟨_, rfl, rfl⟩
    ·rcases hpart hy' hq' with ⟨_, h3, h4⟩ | ⟨_, rfl, rfl⟩
     ·exact hI.sep j k x y q q' g hjk h1 h3 h2 h4 hox hat1 hat2
     ·rcases hI.own j x q g h1 h2 hat1 with ⟨_, i1, o1, k1, k2, k3, k4⟩ | ⟨k1, _⟩
      ·obtain ⟨i2, o2, m1, m2, m3⟩ := hat g hat2
       exact hs i1 i2 o1 o2 g (fun e => m1 (e ▸ k1)) k2 m2 k3 k4 m3
      ·rw [hox] at k1; cases k1
    ·cases hox
   ·obtain ⟨k, o, o', h1, h2, h3, h4⟩ := hI.gho q i hq
    exact ⟨k, o, o', by rw [List.getElem?_append_left (List.getElem?_eq_some_iff.1 h1).1]; exact h1, by rw [List.getElem?_append_left (List.getElem?_eq_some_iff.1 h2).1]; exact h2, by rw [List.getElem?_append_left (List.getElem?_eq_some_iff.1 h3).1]; exact h3, h4⟩
  ·cases hF
end
def dnC (nb : Nat) : Cl → Cl
 | .wh i => .wh (i - nb)
 | .sl i lo n => .sl (i - nb) lo n
 | .pt i off => .pt (i - nb) off
 | .dv i p => .dv (i - nb) p
 | .dq i p k f sz => .dq (i - nb) p k f sz
 | .fp f i off => .fp f (i - nb) off
 | .pre i n => .pre (i - nb) n
 | .gh i p => .gh (i - nb) p
 | .gi i k => .gi (i - nb) k
 | c => c
def dnL (nb : Nat) : List Cl → List Cl
 | [] => []
 | c :: l => dnC nb c :: dnL nb l
def dnX (nb : Nat) : Cs → Cs
 | .c l => .c (dnL nb l)
 | .g j n sz tl => .g (j - nb) n sz (dnL nb tl)
 | .p j js => .p (j - nb) js
 | cs => cs
def dn1 (nb : Nat) : A1 → A1
 | .c x => .c (dnC nb x)
 | .g n cs => .g n (dnX nb cs)
def dn1s (nb : Nat) : List A1 → List A1
 | [] => []
 | c :: l => dn1 nb c :: dn1s nb l
def dnA (nb : Nat) : AV → AV
 | .c x => .c (dnC nb x)
 | .g n cs => .g n (dnX nb cs)
 | .t xs => .t (dn1s nb xs)
def dnH (nb : Nat) : Hp → Hp
 | [] => []
 | o :: l => ⟨o.kd, o.e, o.sz, o.n, dnX nb o.cs⟩ :: dnH nb l
def geQ (nb : Nat) (i : Nat) : Bool := Nat.ble nb i
def geH (nb : Nat) : Hp → Bool
 | [] => true
 | o :: l => pX (geQ nb) o.cs && geH nb l
section
variable {ρ : Pls} {nb : Nat}
abbrev lowP (ρ : Pls) (nb : Nat) : Pls := fun i => ρ (nb + i)
theorem low_at {i : Nat} (h : geQ nb i = true) : lowP ρ nb (i - nb) = ρ i := by
 have : nb ≤ i := Nat.le_of_ble_eq_true h
 show ρ (nb + (i - nb)) = _
 rw [Nat.add_sub_cancel' this]
theorem dnC_ok {c : Cl} (h : pC (geQ nb) c = true) {v : Value} (hv : clR ρ c v) : clR (lowP ρ nb) (dnC nb c) v := by
 cases c with
 | s x => exact hv
 | nils => exact hv
 | junk => exact hv
 | wh i => simp only [dnC, clR, low_at (ρ := ρ) (show geQ nb i = true from h)]; exact hv
 | sl i lo n => simp only [dnC, clR, low_at (ρ := ρ) (show geQ nb i = true from h)]; exact hv
 | pt i off => simp only [dnC, clR, low_at (ρ := ρ) (show geQ nb i = true from h)]; exact hv
 | dv i p => simp only [dnC, clR, low_at (ρ := ρ) (show geQ nb i = true from h)]; exact hv
 | dq i p k f sz => simp only [dnC, clR, low_at (ρ := ρ) (show geQ nb i = true from h)]; exact hv
 | fp f i off => simp only [dnC, clR, low_at (ρ := ρ) (show geQ nb i = true from h)]; exact hv
 | pre i n => simp only [dnC, clR, low_at (ρ := ρ) (show geQ nb i = true from h)]; exact hv
 | gh i p => simp only [dnC, clR, low_at (ρ := ρ) (show geQ nb i = true from h)]; exact hv
 | gi i k => simp only [dnC, clR, low_at (ρ := ρ) (show geQ nb i = true from h)]; exact hv
theorem dnL_ok : ∀ {l : List Cl}, pL (geQ nb) l = true → ∀ {vs : List Value}, F2 (clR ρ) l vs → F2 (clR (lowP ρ nb)) (dnL nb l) vs
 | [], _, vs, hv => by rw [hv.unnil]; exact F2.nil
 | c :: l, h, vs, hv => by
  simp only [pL, Bool.and_eq_true] at h
  obtain ⟨v, vs, rfl, h1, h2⟩ := hv.uncons
  exact F2.cons (dnC_ok h.1 h1) (dnL_ok h.2 h2)
theorem dnX_ok {cs : Cs} (h : pX (geQ nb) cs = true) {vs : List Value} (hv : csR ρ cs vs) : csR (lowP ρ nb) (dnX nb cs) vs := by
 cases cs with
 | c l => exact dnL_ok h hv
 | b l => exact csR_b.2 (csR_b.1 hv)
 | w l => exact csR_w.2 (csR_w.1 hv)
 | q l => exact csR_q.2 (csR_q.1 hv)
 | z l => exact csR_z.2 (csR_z.1 hv)
 | d x l => exact csR_d.2 (csR_d.1 hv)
 | g j n sz tl =>
  simp only [pX, Bool.and_eq_true] at h
  have hv' : F2 (clR ρ) (ghc j n sz ++ tl) vs := hv
  have h1 := hv'.take (n * sz)
  have h2 := hv'.drop (n * sz)
  rw [List.take_left' (ghc_len j n sz)] at h1
  rw [List.drop_left' (ghc_len j n sz)] at h2
  have h3 : F2 (clR (lowP ρ nb)) (ghc (j - nb) n sz) (vs.take (n * sz)) := by
   refine ⟨by rw [ghc_len, ← h1.1, ghc_len], fun q x y hx hy => ?_⟩
   unfold ghc at hx
   rw [List.getElem?_map] at hx
   obtain ⟨z, hz, rfl⟩ := Option.map_eq_some_iff.1 hx
   have := h1.2 q (.gh j [(z / sz, z % sz)]) y (by unfold ghc; rw [List.getElem?_map, hz]; rfl) hy
   simp only [clR, low_at (ρ := ρ) h.1] at this ⊢
   exact this
  have := F2.append h3 (dnL_ok h.2 h2)
  rw [List.take_append_drop] at this
  exact this
 | p j js => exact gi_mono (low_at (ρ := ρ) (show geQ nb j = true from h)) hv
theorem dn1_ok {x : A1} (h : p1 (geQ nb) x = true) {v : Value} (hv : a1R ρ x v) : a1R (lowP ρ nb) (dn1 nb x) v := by
 cases x with
 | c x => exact dnC_ok h hv
 | g n cs => obtain ⟨vs, h1, h2⟩ := hv; exact ⟨vs, dnX_ok h h1, h2⟩
theorem dn1s_ok : ∀ {xs : List A1}, p1s (geQ nb) xs = true → ∀ {vs : List Value}, F2 (a1R ρ) xs vs → F2 (a1R (lowP ρ nb)) (dn1s nb xs) vs
 | [], _, vs, hv => by rw [hv.unnil]; exact F2.nil
 | x :: xs, h, vs, hv => by
  simp only [p1s, Bool.and_eq_true] at h
  obtain ⟨v, vs, rfl, h1, h2⟩ := hv.uncons
  exact F2.cons (dn1_ok h.1 h1) (dn1s_ok h.2 h2)
theorem dnA_ok {x : AV} (h : pA (geQ nb) x = true) {v : Value} (hv : avR ρ x v) : avR (lowP ρ nb) (dnA nb x) v := by
 cases x with
 | c x => exact dnC_ok h hv
 | g n cs => obtain ⟨vs, h1, h2⟩ := hv; exact ⟨vs, dnX_ok h h1, h2⟩
 | t xs => obtain ⟨vs, h1, h2⟩ := hv; exact ⟨vs, dn1s_ok h h1, h2⟩
theorem dnX_len (nb : Nat) (cs : Cs) : (dnX nb cs).cl.length = cs.cl.length := by
 cases cs with
 | c l =>
  show (dnL nb l).length = l.length
  induction l with
  | nil => rfl
  | cons c l ih => simp [dnL, ih]
 | g j n sz tl =>
  show (ghc _ _ _ ++ dnL nb tl).length = (ghc _ _ _ ++ tl).length
  rw [List.length_append, List.length_append, ghc_len, ghc_len]
  congr 1
  induction tl with
  | nil => rfl
  | cons c l ih => simp [dnL, ih]
 | p j js => show (js.map _).length = (js.map _).length; rw [List.length_map, List.length_map]
 | _ => rfl
theorem dnH_at : ∀ {H : Hp} {k : Nat} {o : Oj}, (dnH nb H)[k]? = some o → ∃ o', H[k]? = some o' ∧ o = ⟨o'.kd, o'.e, o'.sz, o'.n, dnX nb o'.cs⟩
 | [], k, o, h => by simp [dnH] at h
 | x :: H, k, o, h => by
  cases k with
  | zero => simp [dnH] at h; exact ⟨x, rfl, h.symm⟩
  | succ k => simpa [dnH] using dnH_at (H := H) (k := k) (by simpa [dnH] using h)
theorem dnH_len : ∀ (H : Hp), (dnH nb H).length = H.length
 | [] => rfl
 | x :: H => by simp [dnH, dnH_len H]
theorem geH_ok : ∀ {H : Hp}, geH nb H = true → ∀ (i : Nat) (o : Oj), H[i]? = some o → pX (geQ nb) o.cs = true
 | [], _, i, o, h => by simp at h
 | x :: l, h, i, o, ho => by
  simp only [geH, Bool.and_eq_true] at h
  cases i with
  | zero => simp at ho; subst ho; exact h.1
  | succ i => exact geH_ok h.2 i o (by simpa using ho)
end
theorem objR_re {ρ ρ' : Pls} {w : World} {p : Pl} {o : Oj} {cs : Cs} (hc : ∀ vs, csR ρ o.cs vs → csR ρ' cs vs) (hl : cs.cl.length = o.cs.cl.length) (hkd : ∀ b, o.kd ≠ .gs b) (hdx : ∀ x l, o.cs = .d x l → cs = .d x l) (hr : objR ρ w p o) : objR ρ' w p ⟨o.kd, o.e, o.sz, o.n, cs⟩ := by
 unfold objR at hr ⊢
 cases hk : o.kd with
 | dead => exact True.intro
 | ro fs => simp only [hk] at hr ⊢; obtain ⟨⟨e1, e2, e3⟩, g1, vs, h, hA⟩ := hr; exact ⟨⟨e1, e2, by rw [hl]; exact e3⟩, g1, vs, hc vs h, hA⟩
 | row => simp only [hk] at hr ⊢; obtain ⟨⟨e1, e2, e3⟩, vs, h, hA⟩ := hr; exact ⟨⟨e1, e2, by rw [hl]; exact e3⟩, vs, hc vs h, hA⟩
 | blk => simp only [hk] at hr ⊢; obtain ⟨⟨e1, e2, e3⟩, b, vs, hA, h, hB⟩ := hr; exact ⟨⟨e1, e2, by rw [hl]; exact e3⟩, b, vs, hA, hc vs h, hB⟩
 | gs fs => exact absurd hk (hkd fs)
 | dp fs =>
  simp only [hk] at hr ⊢
  unfold DpR at hr ⊢
  split at hr
  ·rename_i hc2
   rw [hdx _ _ hc2]
   exact hr
  ·exact hr.elim
def newH : Hp → Bool
 | [] => true
 | o :: l => (match o.kd with | .row | .blk | .dead | .ro true | .dp true => true | _ => false) && newH l
theorem newH_ok : ∀ {H : Hp}, newH H = true → ∀ (i : Nat) (o : Oj), H[i]? = some o → (∀ b, o.kd ≠ .gs b) ∧ (o.kd = .dead ∨ o.fsh = true)
 | [], _, i, o, h => by simp at h
 | x :: l, h, i, o, ho => by
  simp only [newH, Bool.and_eq_true] at h
  cases i with
  | zero =>
   simp at ho; subst ho
   have h1 := h.1
   unfold Oj.fsh
   cases hk : x.kd with
   | ro b => cases b with
    | true => exact ⟨by simp, .inr rfl⟩
    | false => rw [hk] at h1; cases h1
   | row => exact ⟨by simp, .inr rfl⟩
   | blk => exact ⟨by simp, .inr rfl⟩
   | dead => exact ⟨by simp, .inl rfl⟩
   | dp b => cases b with
    | true => exact ⟨by simp, .inr rfl⟩
    | false => rw [hk] at h1; cases h1
   | gs b => rw [hk] at h1; cases h1
  | succ i => exact newH_ok h.2 i o (by simpa using ho)
def ghl : Nat → List AV → Fr
 | _, [] => []
 | q, x :: xs => (1000000 + q, x) :: ghl (q + 1) xs
def isGh : Nat → Fr → Bool
 | _, [] => true
 | q, (t, x) :: r => Nat.beq t (1000000 + q) && (match x with | .c (.pt i 0) => Nat.beq i q | _ => false) && isGh (q + 1) r
theorem isGh_ok : ∀ {gl : Fr} {q : Nat}, isGh q gl = true → ∀ k, k < gl.length → gl.lookup (1000000 + (q + k)) = some (kP (q + k) 0)
 | [], _, _, k, h => by simp at h
 | (t, x) :: r, q, hg, k, hk => by
  simp only [isGh, Bool.and_eq_true] at hg
  have ht := Nat.eq_of_beq_eq_true hg.1.1
  have hx : x = kP q 0 := by
   have := hg.1.2
   split at this
   ·rename_i i; rw [Nat.eq_of_beq_eq_true this]
   ·cases this
  subst ht; subst hx
  cases k with
  | zero => simp
  | succ k =>
   rw [List.lookup_cons]
   have e : (1000000 + (q + (k + 1)) == 1000000 + q) = false := by rw [beq_eq_false_iff_ne]; omega
   rw [e]
   have := isGh_ok hg.2 k (by simpa using hk)
   rw [show q + 1 + k = q + (k + 1) by omega] at this
   exact this
theorem ghl_look : ∀ {xs : List AV} {q t : Nat} {x : AV}, (ghl q xs).lookup t = some x → ∃ k, t = 1000000 + (q + k) ∧ xs[k]? = some x
 | [], q, t, x, h => by simp [ghl] at h
 | y :: ys, q, t, x, h => by
  simp only [ghl, List.lookup_cons] at h
  split at h
  ·rename_i e
   have : t = 1000000 + q := by simpa using e
   injection h with h; subst h
   exact ⟨0, this, rfl⟩
  ·obtain ⟨k, h1, h2⟩ := ghl_look h
   exact ⟨k + 1, by omega, by simpa using h2⟩
def blkH : Hp → Bool
 | [] => true
 | o :: l => (match o.kd with | .blk => true | _ => false) && blkH l
theorem blkH_ok : ∀ {H : Hp}, blkH H = true → ∀ (i : Nat) (o : Oj), H[i]? = some o → o.kd = .blk
 | [], _, i, o, h => by simp at h
 | x :: l, h, i, o, ho => by
  simp only [blkH, Bool.and_eq_true] at h
  cases i with
  | zero =>
   simp at ho; subst ho
   have := h.1
   split at this
   ·assumption
   ·cases this
  | succ i => exact blkH_ok h.2 i o (by simpa using ho)
def retM (T : Tab) (s : S) (rs : List ResultVar) (objs : List Nat) (nb : Nat) : Option (AV × Hp × Hp) := match resA T s rs with
 | some av => (match keep [0] objs ⟨[(0, av)], s.gl, s.H⟩ with
  | some ⟨[(0, x)], gl, H⟩ => (match isGh 0 gl && (Nat.beq gl.length nb && (pA (geQ nb) x && (geH nb H && (blkH (H.take nb) && (newH (H.drop nb) && Nat.ble nb H.length))))), ltA (H.length - nb) (dnA nb x) && ltH (H.length - nb) (dnH nb H) with
   | true, true => some (dnA nb x, dnH nb (H.take nb), dnH nb (H.drop nb))
   | _, _ => none)
  | _ => none)
 | none => none
abbrev deadO : Oj := ⟨.dead, 0, 0, 0, .c []⟩
def cmR (gsP : Prop) (x : AV) (G H' : Hp) : CtA := fun args H gs ks => match args, decide (gs.length = G.length) with
 | [], true => some ([gsP], shA H.length x, gs.zip (shH H.length G) ++ ks.map (fun i => (i, deadO)), shH H.length H')
 | _, _ => none
def chkG (az : List AV) (os : Hp) : Nat → Hp → Bool
 | _, [] => true
 | q, o :: G => (match az[q]? with
  | some (.c (.pt k 0)) => (match os[k]? with | some o0 => Nat.beq o0.n o.n && Nat.beq o0.sz o.sz | none => false)
  | _ => false) && chkG az os (q + 1) G
theorem chkG_ok {az : List AV} {os : Hp} : ∀ {G : Hp} {q : Nat}, chkG az os q G = true → ∀ (j k : Nat) (o o0 : Oj), G[j]? = some o → az[q + j]? = some (kP k 0) → os[k]? = some o0 → o0.n = o.n ∧ o0.sz = o.sz
 | [], _, _, j, k, o, o0, h, _, _ => by simp at h
 | x :: G, q, hc, j, k, o, o0, h, ha, ho => by
  simp only [chkG, Bool.and_eq_true] at hc
  cases j with
  | zero =>
   simp only [List.getElem?_cons_zero, Option.some.injEq] at h; subst h
   rw [Nat.add_zero] at ha
   have h1 := hc.1
   rw [ha] at h1
   simp only [ho, Bool.and_eq_true] at h1
   exact ⟨Nat.eq_of_beq_eq_true h1.1, Nat.eq_of_beq_eq_true h1.2⟩
  | succ j => exact chkG_ok hc.2 j k o o0 (by simpa using h) (by rw [show q + 1 + j = q + (j + 1) by omega]; exact ha) ho
section
variable {P : Program} {f : FuncId} {az : List AV} {os : Hp} {T : Tab}
theorem calls_WB {bs : Bs} {w : World} {f : FuncId} {fn : Func} {c : Code} {vals : List Value} {s0 : S} {n : Nat} (hf : P.funcs[f]? = some fn) (hb : fn.body = some c) (hn : fn.ntmps = n)
  (h0 : Rel n bs w s0 { tmps := vals.toArray ++ Array.replicate (n - vals.toArray.size) undef, defers := [] } w) {Q : Exit → S → Prop} (hW : W P n bs w c s0 Q) {R : Value → World → Prop}
  (hQ : ∀ e s', Q e s' → (e = .ret ∨ e = .normal) ∧ ∀ a' w', Rel n bs w s' a' w' → ∃ v, (results fn a'.tmps).run P w' = .ok v w' ∧ R v w') : Calls P f vals.toArray w (Ret R) := by
 refine calls_of_wp hf hb ?_
 rw [hn]
 refine Go.wp_mono (hW _ _ h0) fun e a' w' ⟨s', hq, hr⟩ => ?_
 obtain ⟨he, hv⟩ := hQ e s' hq
 obtain ⟨v, h1, h2⟩ := hv a' w' hr
 rcases he with rfl | rfl
 ·exact ⟨hr.dfr, v, h1, v, rfl, h2⟩
 ·exact ⟨hr.dfr, v, h1, v, rfl, h2⟩
theorem args0_look : ∀ {xs : List AV} {k t : Nat} {x : AV}, (args0 k xs).lookup t = some x → k ≤ t ∧ xs[t - k]? = some x
 | [], k, t, x, h => by simp [args0] at h
 | y :: ys, k, t, x, h => by
  simp only [args0, List.lookup_cons] at h
  split at h
  ·rename_i e
   have : t = k := by simpa using e
   subst this
   injection h with h; subst h
   exact ⟨Nat.le_refl _, by simp⟩
  ·obtain ⟨h1, h2⟩ := args0_look h
   refine ⟨by omega, ?_⟩
   rw [show t - k = (t - (k + 1)) + 1 by omega]
   simpa using h2
theorem zip_in {gs : List Nat} {G : Hp} {ks : List Nat} {i : Nat} {o : Oj} (h : (i, o) ∈ gs.zip G ++ ks.map (fun i => (i, deadO))) : (∃ q : Nat, gs[q]? = some i ∧ G[q]? = some o) ∨ (i ∈ ks ∧ o = deadO) := by
 rcases List.mem_append.1 h with h | h
 ·obtain ⟨q, hq⟩ := List.mem_iff_getElem?.1 h
  rw [List.getElem?_zip_eq_some] at hq
  exact .inl ⟨q, hq⟩
 ·obtain ⟨j, hj, e⟩ := List.mem_map.1 h
  injection e with e1 e2; subst e1; subst e2
  exact .inr ⟨hj, rfl⟩
theorem HM_0 {mm : Bool} (hT : TabOk P T) (R : S) (rs : List ResultVar) (keepl : List Nat) (n nb : Nat) {fn : Func} {c : Code} {gsP : Prop} {x : AV} {G H' : Hp} (hf : P.funcs[f]? = some fn)
  (hW : ∀ (w : World) (bs : Bs), gsP → W P n bs w c ⟨args0 0 az, ghl 0 (az.take nb), os⟩ (fun e s => (e = .ret ∨ e = .normal) ∧ s = R))
  (hb : fn.body = some c := by rfl) (hn : fn.ntmps = n := by rfl) (hres : fn.results = rs.toArray := by rfl) (hr : retM T R rs keepl nb = some (x, G, H') := by kernel_rfl) (hl : Nat.ble az.length n = true := by kernel_rfl) (hck : chkG az os 0 G = true := by kernel_rfl) :
  HOM mm P f (cmR gsP x G H') az os := by
 intro args H g av up objs gs ks hF hg ρ w vals hp hs ha ps v0 hI
 unfold cmR at hF
 split at hF
 ·rename_i hgl
  simp only [decide_eq_true_eq] at hgl
  injection hF with hF; simp only [Prod.mk.injEq] at hF; obtain ⟨rfl, rfl, rfl, rfl⟩ := hF
  obtain rfl := F2.inv0 ha
  rw [List.append_nil]
  generalize hup : gs.zip (shH H.length G) ++ ks.map (fun i => (i, deadO)) = up
  have hGl : (shH H.length G).length = gs.length := by rw [shH_len, hgl]
  have inUp : ∀ i, i ∈ gs ++ ks → ∃ o', (i, o') ∈ up := fun i hi => by
   rw [← hup]
   rcases List.mem_append.1 hi with hi | hi
   ·obtain ⟨q, hq⟩ := List.mem_iff_getElem?.1 hi
    have hlt : q < (shH H.length G).length := by rw [hGl]; exact (List.getElem?_eq_some_iff.1 hq).1
    exact ⟨(shH H.length G)[q], List.mem_append_left _ (List.mem_iff_getElem?.2 ⟨q, List.getElem?_zip_eq_some.2 ⟨hq, List.getElem?_eq_getElem hlt⟩⟩)⟩
   ·exact ⟨deadO, List.mem_append_right _ (List.mem_map.2 ⟨i, hi, rfl⟩)⟩
  let bs : Bs := ⟨consB ρ H up, fun q => v0.getD q undef, fun _ => False⟩
  obtain ⟨f0, hv⟩ := hI.val (plL ps) (fun j p hj => by rw [Nat.zero_add]; unfold plL; rw [hj])
  have hobj : ∀ (i : Nat) (o : Oj), os[i]? = some o → ∃ p, ps[i]? = some p ∧ plL ps i = p := fun i o ho => by
   have : i < ps.length := by rw [← hI.len]; exact (List.getElem?_eq_some_iff.1 ho).1
   exact ⟨ps[i], List.getElem?_eq_getElem this, by unfold plL; rw [List.getElem?_eq_getElem this]⟩
  have h0 : Rel n bs w ⟨args0 0 az, ghl 0 (az.take nb), os⟩ { tmps := v0.toArray ++ Array.replicate (n - v0.toArray.size) undef, defers := [] } w := by
   have hvl : v0.length ≤ n := by rw [← hv.1]; exact Nat.le_of_ble_eq_true hl
   refine ⟨rfl, by simp; omega, plL ps, ?_, fun t y hy => ?_, fun i o ho => ?_, fun i j a b g hij hx' hy' hox hat hat2 => ?_, fun i o g ho hfs hat => ?_, Kp.refl _ _⟩
   ·intro t y hy
    obtain ⟨_, h1⟩ := args0_look hy
    obtain ⟨v, hv1, hv2⟩ := hv.at (show az[t]? = some y by simpa using h1)
    have hlt := (List.getElem?_eq_some_iff.1 hv1).1
    have : (v0.toArray ++ Array.replicate (n - v0.toArray.size) undef).getD t undef = v := by
     rw [Array.getD_eq_getD_getElem?, Array.getElem?_append_left (by simpa using hlt)]
     simp [hv1]
    rw [this]; exact hv2
   ·obtain ⟨k, rfl, hk⟩ := ghl_look hy
    rw [List.getElem?_take] at hk
    split at hk
    ·obtain ⟨v, hv1, hv2⟩ := hv.at hk
     unfold gvOf
     rw [if_neg (by omega)]
     show avR _ y (v0.getD (1000000 + (0 + k) - 1000000) undef)
     rw [show 1000000 + (0 + k) - 1000000 = k by omega, List.getD_eq_getElem?_getD, hv1]
     exact hv2
    ·cases hk
   ·obtain ⟨p, h1, h2⟩ := hobj i o ho
    show objR _ _ (plL ps i) o
    rw [h2]; exact f0 i o p ho h1
   ·obtain ⟨p, h1, h2⟩ := hobj i a hx'
    obtain ⟨q, h3, h4⟩ := hobj j b hy'
    have hat' : objAt (plL ps i) a g := hat
    have hat2' : objAt (plL ps j) b g := hat2
    rw [h2] at hat'
    rw [h4] at hat2'
    exact hI.sep i j a b p q g hij hx' hy' h1 h3 hox hat' hat2'
   ·obtain ⟨p, h1, h2⟩ := hobj i o ho
    have hat' : objAt (plL ps i) o g := hat
    rw [h2] at hat'
    rcases hI.own i o p g ho h1 hat' with ⟨_, i', o', k1, k2, k3, k4⟩ | ⟨_, k1, _⟩
    ·obtain ⟨o2, k5⟩ := inUp i' k1
     exact .inr (.inl ⟨i', o2, o', k5, k2, k3, k4⟩)
    ·rw [hfs] at k1; cases k1
  have hgP : gsP := by simpa [allP] using hg
  refine calls_WB hf hb hn h0 (hW w bs hgP) ?_
  rintro e s' ⟨he, rfl⟩
  refine ⟨he, fun a' w' hR => ?_⟩
  -- the end
  obtain ⟨_, _, ρ1, hr1⟩ := hR
  unfold retM at hr
  split at hr
  ·rename_i av0 hav
   obtain ⟨v, g1, g2⟩ := resA_ok hT hr1 hres hav
   split at hr
   ·rename_i y gl Hk hkeep
    split at hr
    ·rename_i hc1 hc2
     simp only [Bool.and_eq_true] at hc1 hc2
     obtain ⟨c1, c2, c3, c4, c5, c6, c7⟩ := hc1
     obtain ⟨c8, c9⟩ := hc2
     injection hr with hr; simp only [Prod.mk.injEq] at hr; obtain ⟨rfl, rfl, rfl⟩ := hr
     have hnb : gl.length = nb := Nat.eq_of_beq_eq_true c2
     have hnl : nb ≤ Hk.length := Nat.le_of_ble_eq_true c7
     have hk0 : Rel 1 bs w ⟨[(0, av0)], s'.gl, s'.H⟩ { tmps := #[v], defers := [] } w' := ⟨rfl, rfl, ρ1, fun t z hz => by
      rw [List.lookup_cons] at hz
      split at hz
      ·rename_i e
       have : t = 0 := by simpa using e
       subst this
       injection hz with hz; subst hz; exact g2
      ·simp at hz, hr1.gl, hr1.hp, hr1.sep, hr1.own, hr1.kp⟩
     obtain ⟨_, _, ρR, hr2⟩ := keep_ok hkeep hk0
     have hy : avR ρR y v := hr2.fr 0 y rfl
     have hgs : gs.length = nb := by rw [hgl, dnH_len, List.length_take]; omega
     -- each ghost's object stands where the caller's does
     have hA : ∀ (q i : Nat), gs[q]? = some i → (ρR q).A = (ρ i).A ∧ (∃ ad, (ρ i).A = some ad) := fun q i hq => by
      have hql : q < nb := by rw [← hgs]; exact (List.getElem?_eq_some_iff.1 hq).1
      obtain ⟨k, o, o', h1, h2, h3, _⟩ := hI.gho q i hq
      obtain ⟨u, hu1, hu2⟩ := hv.at h1
      obtain ⟨_, ad, hu3, hu4⟩ := hu2
      have hpk : plL ps k = ρ i := by unfold plL; rw [h3]
      rw [hpk] at hu3
      have hg2 := hr2.gl (1000000 + (0 + q)) _ (isGh_ok c1 q (by rw [hnb]; exact hql))
      unfold gvOf at hg2
      rw [if_neg (by omega)] at hg2
      have hg3 : clR ρR (.pt (0 + q) 0) (v0.getD (1000000 + (0 + q) - 1000000) undef) := hg2
      rw [show 1000000 + (0 + q) - 1000000 = q by omega, List.getD_eq_getElem?_getD, hu1, Nat.zero_add] at hg3
      obtain ⟨_, ad2, hg4, hg5⟩ := hg3
      have z0 : ∀ x : Addr, x.add 0 = x := fun x => by simp [Addr.add]
      have hg6 : u = .pointer (some (ad2.add 0)) := hg5
      rw [hu4, z0, z0] at hg6
      injection hg6 with hg6; injection hg6 with hg6
      exact ⟨by rw [hg4, hu3, hg6], ad, hu3⟩
     let ps2 : List Pl := (List.range (Hk.drop nb).length).map (lowP ρR nb)
     have hat : ∀ (k : Nat), k < (Hk.drop nb).length → ps2[k]? = some (ρR (nb + k)) := fun k hk => by
      have hk2 : k < Hk.length - nb := by simpa using hk
      simp [ps2, hk2]
     have hps : ∀ (k : Nat) (p : Pl), ps2[k]? = some p → p = ρR (nb + k) := fun k p hpk => by
      have hk := (List.getElem?_eq_some_iff.1 hpk).1
      rw [hat k (by simpa [ps2] using hk)] at hpk
      injection hpk with hpk; exact hpk.symm
     have hρ : ∀ i, i < Hk.length - nb → updL ρ H.length ps2 (H.length + i) = lowP ρR nb i := fun i hi => updL_at (hat i (by simpa using hi))
     have hcs : ∀ (j : Nat) (o : Oj), Hk[j]? = some o → o.kd ≠ .dead → ∀ vs, csR ρR o.cs vs → csR (updL ρ H.length ps2) (shX H.length (dnX nb o.cs)) vs := fun j o hj hkd vs hvs => by
      have h1 := dnX_ok (geH_ok c4 j o hj) hvs
      have h2 : (dnH nb Hk)[j]? = some ⟨o.kd, o.e, o.sz, o.n, dnX nb o.cs⟩ := by
       have hlt : j < (dnH nb Hk).length := by rw [dnH_len]; exact (List.getElem?_eq_some_iff.1 hj).1
       obtain ⟨o2, h3, h4⟩ := dnH_at (List.getElem?_eq_getElem hlt)
       rw [hj] at h3; injection h3 with h3; subst h3
       rw [List.getElem?_eq_getElem hlt, h4]
      exact shX_ok hρ (ltH_ok c9 j _ h2 hkd) h1
     have newAt : ∀ {k : Nat} {o : Oj} {p : Pl}, (shH H.length (dnH nb (Hk.drop nb)))[k]? = some o → ps2[k]? = some p → ∃ o0, Hk[nb + k]? = some o0 ∧ o = ⟨o0.kd, o0.e, o0.sz, o0.n, shX H.length (dnX nb o0.cs)⟩ ∧ p = ρR (nb + k) ∧ (∀ b, o0.kd ≠ .gs b) ∧ (o0.kd = .dead ∨ o0.fsh = true) := by
      intro k o p ho hpk
      obtain ⟨o1, h1, rfl⟩ := shH_at ho
      obtain ⟨o0, h2, rfl⟩ := dnH_at h1
      have h3 := newH_ok c6 k o0 h2
      rw [List.getElem?_drop] at h2
      exact ⟨o0, h2, rfl, hps k p hpk, h3⟩
     let foot : Nat → Nat → Prop := fun i g => ∃ q, gs[q]? = some i ∧ (ρR q).foot g
     let pu : Pls := fun i => ⟨(ρ i).A, (ρ i).n, (ρ i).cap, (ρ i).sz, foot i, (ρ i).gv⟩
     have ghAt : ∀ {q i : Nat} {o : Oj}, gs[q]? = some i → (shH H.length (dnH nb (Hk.take nb)))[q]? = some o → ∃ o0, Hk[q]? = some o0 ∧ o = ⟨o0.kd, o0.e, o0.sz, o0.n, shX H.length (dnX nb o0.cs)⟩ ∧ o0.kd = .blk ∧ (∀ g, objAt (pu i) o g → objAt (ρR q) o0 g) ∧ objR (updL ρ H.length ps2) w' (pu i) o := by
      intro q i o hq ho
      obtain ⟨o1, h1, rfl⟩ := shH_at ho
      obtain ⟨o0, h2, rfl⟩ := dnH_at h1
      have h3 := blkH_ok c5 q o0 h2
      have h1' := h1
      rw [List.getElem?_take] at h2
      split at h2
      ·have hro := hr2.hp q o0 h2
       obtain ⟨hA1, _⟩ := hA q i hq
       obtain ⟨k, oo, o', k1, k2, k3, k4, k5, k6⟩ := hI.gho q i hq
       obtain ⟨m1, m2⟩ := chkG_ok hck q k _ oo h1' (by rw [Nat.zero_add]; exact k1) k2
       obtain ⟨o3, k7, k8⟩ := hI.ina i (List.mem_append_left _ (List.mem_of_getElem? hq))
       rw [k4] at k7; injection k7 with k7; subst k7
       have hrd : (ρ i).sz = o'.sz ∧ (ρ i).n = o'.n := by
        have h5 := (hp i o' k4).read (by intro e; unfold Oj.own at k8; rw [e] at k8; cases k8)
        exact ⟨h5.1.1, h5.1.2.1⟩
       have hro2 := objR_re (hcs q o0 h2 (by rw [h3]; simp)) (by rw [shX_len, dnX_len]) (by rw [h3]; simp) (fun x l e => by rw [e]; rfl) hro
       refine ⟨o0, h2, rfl, h3, fun g hg => ?_, ?_⟩
       ·unfold objAt at hg ⊢
        simp only [h3] at hg ⊢
        obtain ⟨ad, hg1, hg2⟩ := hg
        exact ⟨ad, hA1.trans hg1, hg2⟩
       ·unfold objR at hro2 ⊢
        simp only [h3] at hro2 ⊢
        obtain ⟨⟨e1, e2, e3⟩, b, vs, e4, e5, e6⟩ := hro2
        exact ⟨⟨hrd.1.trans (k6.symm.trans m2), hrd.2.trans (k5.symm.trans m1), e3⟩, b, vs, hA1 ▸ e4, e5, e6⟩
      ·cases h2
     have own1 : ∀ {j : Nat} {o : Oj} {g : Nat}, Hk[j]? = some o → o.fsh = true → objAt (ρR j) o g → w.heap.size ≤ g ∨ consB ρ H up g := fun hj hfs hat => (hr2.own _ _ _ hj hfs hat).imp_right (fun h => h.elim id fun h => h.2.elim)
     refine ⟨v, g1, ⟨hr2.kp.os, hr2.kp.tape, hr2.kp.output, hr2.kp.size, hr2.kp.block⟩, ps2, pu, by simp [ps2, shH_len, dnH_len], fun i o' _ => ⟨rfl, rfl, rfl, rfl, rfl⟩, fun k o p ho hpk => ?_, fun i o' hm => ?_, ?_, fun k o p g ho hpk hat2 => ?_, fun i o' g hm hat2 => ?_, fun k l o o' p p' g hkl ho ho' hpk hpk' hown hat1 hat2 => ?_, fun k o p i o' g ho hpk hm hor hat1 hat2 => ?_, fun i o i' o' g hii hm hm' hown hat1 hat2 => ?_⟩
     ·obtain ⟨o0, h1, rfl, rfl, h2, _⟩ := newAt ho hpk
      by_cases hd : o0.kd = .dead
      ·unfold objR; simp only [hd]
      ·exact objR_re (hcs _ o0 h1 hd) (by rw [shX_len, dnX_len]) h2 (fun x l e => by rw [e]; rfl) (hr2.hp _ o0 h1)
     ·rw [← hup] at hm
      rcases zip_in hm with ⟨q, h1, h2⟩ | ⟨_, rfl⟩
      ·obtain ⟨o0, _, _, _, _, h3⟩ := ghAt h1 h2
       exact h3
      ·unfold objR; exact True.intro
     ·exact shA_ok hρ c8 (dnA_ok c3 hy)
     ·obtain ⟨o0, h1, rfl, rfl, _, h2⟩ := newAt ho hpk
      rcases h2 with hd | h2
      ·unfold objAt at hat2; simp only [hd] at hat2
      ·exact own1 h1 h2 hat2
     ·rw [← hup] at hm
      rcases zip_in hm with ⟨q, h1, h2⟩ | ⟨_, rfl⟩
      ·obtain ⟨o0, h3, rfl, h4, h5, _⟩ := ghAt h1 h2
       exact own1 h3 (by unfold Oj.fsh; rw [h4]) (h5 g hat2)
      ·exact hat2.elim
     ·obtain ⟨o0, h1, rfl, rfl, _, _⟩ := newAt ho hpk
      obtain ⟨o1, h2, rfl, rfl, _, _⟩ := newAt ho' hpk'
      exact hr2.sep _ _ o0 o1 g (fun e => hkl (by omega)) h1 h2 hown hat1 hat2
     ·obtain ⟨o0, h1, rfl, rfl, _, _⟩ := newAt ho hpk
      rw [← hup] at hm
      rcases zip_in hm with ⟨q, h2, h3⟩ | ⟨_, rfl⟩
      ·have hql : q < nb := by rw [← hgs]; exact (List.getElem?_eq_some_iff.1 h2).1
       obtain ⟨o1, h4, rfl, h5, h6, _⟩ := ghAt h2 h3
       exact hr2.sep q (nb + k) o1 o0 g (by omega) h4 h1 (by unfold Oj.own; rw [h5]) (h6 g hat2) hat1
      ·exact hat2
     ·rw [← hup] at hm hm'
      rcases zip_in hm with ⟨q, h2, h3⟩ | ⟨_, rfl⟩
      ·rcases zip_in hm' with ⟨q', h2', h3'⟩ | ⟨_, rfl⟩
       ·obtain ⟨o1, h4, rfl, h5, h6, _⟩ := ghAt h2 h3
        obtain ⟨o2, h4', rfl, h5', h6', _⟩ := ghAt h2' h3'
        refine hr2.sep q q' o1 o2 g (fun e => ?_) h4 h4' (by unfold Oj.own; rw [h5]) (h6 g hat1) (h6' g hat2)
        subst e
        rw [h2] at h2'; injection h2' with h2'; exact hii h2'
       ·exact hat2
      ·cases hown
    ·cases hr
   ·cases hr
  ·cases hr
 ·cases hF
def ctM (F : CtA) : CtM := fun args H => F args H [] []
theorem fnokM {F : CtA} {fn : Func} (hf : P.funcs[f]? = some fn) (h : HOM true P f F [] []) (h1 : ((fn.name == "runtime.NumGoroutine") = false) := by kernel_rfl) (h2 : fn.body.isNone = false := by kernel_rfl) : FnMOk P f (ctM F) :=
 ⟨fun args H g av up objs hF hg ρ w vals hp hs ha => h args H g av up objs [] [] hF hg ρ w vals hp hs ha [] [] ⟨fun _ => rfl, rfl, fun _ _ => ⟨fun j o p hj => by simp at hj, F2.nil⟩, fun j o p g hj => by simp at hj, fun i j a b p q g _ hi => by simp at hi, fun q i hq => by simp at hq, fun i hi => by simp at hi, fun i j k hi => by simp at hi⟩, fn, hf, h1, h2⟩
end
end Go.Sx
end
section
namespace Go.Sx
open Go Go.RowKit Go.Ch
inductive Dpo where
 | g0 (i : Nat) (x : Dsh) | ab (i : Nat) (ks : List Nat) | fz (t : Nat) | fzc (i k : Nat) | dn (t : Nat) (e : TypeId) (x : Dsh) | co (c : Co) | wk (i : Nat) | gc (i : Nat) (x : Dsh) | aq (i : Nat) (ks : List Nat)
def wkO (o : Oj) : Option Oj := match o.kd with | .gs true => some ⟨.gs false, o.e, o.sz, o.n, o.cs⟩ | .dp true => some ⟨.dp false, o.e, o.sz, o.n, o.cs⟩ | .ro true => some ⟨.ro false, o.e, o.sz, o.n, o.cs⟩ | _ => none
def memN (i : Nat) : List Nat → Bool
 | [] => false
 | j :: l => Nat.beq i j || memN i l
theorem memN_ok {i : Nat} : ∀ {l : List Nat}, memN i l = true → i ∈ l
 | [], h => nomatch h
 | j :: l, h => by
  simp only [memN, Bool.or_eq_true] at h
  rcases h with h | h
  ·exact List.mem_cons.2 (.inl (Nat.eq_of_beq_eq_true h))
  ·exact List.mem_cons.2 (.inr (memN_ok h))
def msk (ks : List Nat) : Nat → Hp → Hp
 | _, [] => []
 | i, o :: l => (match memN i ks with | true => o | false => ⟨.dead, o.e, o.sz, o.n, o.cs⟩) :: msk ks (i + 1) l
theorem msk_at {ks : List Nat} : ∀ {k : Nat} {H : Hp} {i : Nat} {o : Oj}, (msk ks k H)[i]? = some o → o.kd = .dead ∨ ((k + i) ∈ ks ∧ H[i]? = some o)
 | _, [], _, _, h => nomatch h
 | k, x :: l, 0, o, h => by
  simp only [msk, List.getElem?_cons_zero, Option.some.injEq] at h
  split at h
  ·rename_i hm; subst h; exact .inr ⟨memN_ok hm, rfl⟩
  ·subst h; exact .inl rfl
 | k, x :: l, i + 1, o, h => by
  have := msk_at (k := k + 1) (H := l) (i := i) (by simpa [msk] using h)
  rw [Nat.add_right_comm, Nat.add_assoc] at this
  simpa using this
def fshL (H : Hp) : List Nat → Bool
 | [] => true
 | i :: l => (match H[i]? with | some o => o.fsh | none => false) && fshL H l
theorem fshL_ok {H : Hp} : ∀ {l : List Nat}, fshL H l = true → ∀ i ∈ l, ∃ o, H[i]? = some o ∧ o.fsh = true
 | [], _, i, hi => nomatch hi
 | j :: l, h, i, hi => by
  simp only [fshL, Bool.and_eq_true] at h
  rcases List.mem_cons.1 hi with rfl | hi
  ·have h1 := h.1
   split at h1
   ·rename_i o ho; exact ⟨o, ho, h1⟩
   ·cases h1
  ·exact fshL_ok h.2 i hi
structure Gx where
 o : Oj
 j : Nat
 n : Nat
 tl : List Cl
 og : Oj
 fs : Bool
 x : Dsh
 l : List x.T
def ghO (H : Hp) (i : Nat) : Option Gx := match H[i]? with
 | some o => (match o.kd, o.cs with
  | .row, .g j n sz tl => (match H[j]? with
   | some og => (match og.kd, og.cs with
    | .gs fs, .d x l => (match Nat.beq o.sz sz && (Nat.beq sz x.sz && Nat.beq og.sz sz) with | true => some ⟨o, j, n, tl, og, fs, x, l⟩ | false => none)
    | _, _ => none)
   | none => none)
  | _, _ => none)
 | none => none
theorem ghO_ok {H : Hp} {i : Nat} {q : Gx} (h : ghO H i = some q) :
  H[i]? = some q.o ∧ q.o.kd = .row ∧ q.o.cs = .g q.j q.n q.x.sz q.tl ∧ H[q.j]? = some q.og ∧ q.og.kd = .gs q.fs ∧ q.og.cs = .d q.x q.l ∧ q.o.sz = q.x.sz ∧ q.og.sz = q.x.sz := by
 unfold ghO at h
 split at h
 ·rename_i o' ho
  split at h
  ·rename_i j' n' sz' tl' hk hc
   split at h
   ·rename_i og' hog
    split at h
    ·rename_i fs' x' l' hgk hgc
     split at h
     ·rename_i hb
      simp only [Bool.and_eq_true] at hb
      have b1 := Nat.eq_of_beq_eq_true hb.1
      have b2 := Nat.eq_of_beq_eq_true hb.2.1
      have b3 := Nat.eq_of_beq_eq_true hb.2.2
      injection h with h
      subst h
      exact ⟨ho, hk, by rw [hc, b2], hog, hgk, hgc, by show o'.sz = x'.sz; rw [b1, b2], by show og'.sz = x'.sz; rw [b3, b2]⟩
     ·cases h
    ·cases h
   ·cases h
  ·cases h
 ·cases h
structure GhR (w : World) (p : Pl) (x : Dsh) (l : List x.T) : Prop where
 n : p.n = l.length
 lt : ∀ g, p.foot g → g < w.heap.size
 el : ∀ (k : Nat) (y : x.T), gq l k = some y → DR w p.foot p.gv x y (fun g => [(k, g)]) 0
section
variable {P : Program} {T : Tab} {ρ : Pls} {w : World} {bs : Bs} {w0 : World} {s s' : S} {a : Act} {N : Nat}
theorem gh_at (hp : HpR ρ w s.H) {j : Nat} {og : Oj} {fs : Bool} {x : Dsh} {l : List x.T} (h : s.H[j]? = some og) (hk : og.kd = .gs fs) (hc : og.cs = .d x l) : GhR w (ρ j) x l := by
 have hr := hp j og h
 unfold objR at hr
 simp only [hk] at hr
 unfold GsR at hr
 have hr := hr.2
 rw [hc] at hr
 exact ⟨hr.1.2.1.trans hr.1.2.2.1, hr.2.1, hr.2.2⟩
theorem gq_lt {α : Type} {l : List α} {k : Nat} {y : α} (h : gq l k = some y) : k < l.length := (List.getElem?_eq_some_iff.1 h).1
theorem ghc_at {j n sz : Nat} (hsz : 0 < sz) {vs : List Value} (h : F2 (clR ρ) (ghc j n sz) vs) {k g : Nat} (hk : k < n) (hg : g < sz) : vs[k * sz + g]? = some ((ρ j).gv [(k, g)]) := by
 have hq : k * sz + g < n * sz := by
  have : (k + 1) * sz ≤ n * sz := Nat.mul_le_mul_right _ hk
  rw [Nat.add_mul, Nat.one_mul] at this; omega
 have h1 : (ghc j n sz)[k * sz + g]? = some (.gh j [((k * sz + g) / sz, (k * sz + g) % sz)]) := by
  unfold ghc; rw [List.getElem?_map, List.getElem?_range hq]; rfl
 obtain ⟨v, hv, hr⟩ := h.at h1
 rw [hv, show v = _ from hr]
 rw [show (k * sz + g) / sz = k by rw [Nat.mul_comm, Nat.mul_add_div hsz, Nat.div_eq_of_lt hg, Nat.add_zero], show (k * sz + g) % sz = g by rw [Nat.mul_comm, Nat.mul_add_mod, Nat.mod_eq_of_lt hg]]
theorem ghc_of {j n sz : Nat} (hsz : 0 < sz) {vs : List Value} (hl : vs.length = n * sz) (h : ∀ k g, k < n → g < sz → vs[k * sz + g]? = some ((ρ j).gv [(k, g)])) : F2 (clR ρ) (ghc j n sz) vs := by
 refine ⟨by rw [ghc_len, hl], fun q c v hc hv => ?_⟩
 unfold ghc at hc
 rw [List.getElem?_map] at hc
 obtain ⟨z, hz, rfl⟩ := Option.map_eq_some_iff.1 hc
 have hq : q < n * sz := by have := (List.getElem?_eq_some_iff.1 hz).1; simpa using this
 rw [List.getElem?_range hq] at hz
 injection hz with hz; subst hz
 have h2 := h (q / sz) (q % sz) (Nat.div_lt_of_lt_mul (by rw [Nat.mul_comm]; exact hq)) (Nat.mod_lt _ hsz)
 rw [Nat.div_add_mod', hv] at h2
 injection h2
theorem wkO_ok {o x : Oj} (h : wkO o = some x) : x.own = false ∧ x.fsh = false ∧ (∀ p g, objAt p x g → objAt p o g) ∧ ∀ {ρ : Pls} {w : World} {p : Pl}, objR ρ w p o → objR ρ w p x := by
 obtain ⟨kd, e, sz, n, cs⟩ := o
 cases kd with
 | ro b => cases b with
  | true => injection h with h; subst h; exact ⟨rfl, rfl, fun _ _ h => h, fun h => h⟩
  | false => cases h
 | dp b => cases b with
  | true => injection h with h; subst h; exact ⟨rfl, rfl, fun _ _ h => h, fun h => h⟩
  | false => cases h
 | gs b => cases b with
  | true => injection h with h; subst h; exact ⟨rfl, rfl, fun _ _ h => h, fun h => h⟩
  | false => cases h
 | _ => cases h
theorem RelA.wk (r3 : RelA ρ bs w0 s a w) {i : Nat} {o x : Oj} (ho : s.H[i]? = some o) (hx : wkO o = some x) : RelA ρ bs w0 ⟨s.fr, s.gl, s.H.set i x⟩ a w := by
 obtain ⟨x1, x2, x3, x4⟩ := wkO_ok hx
 have at_ : ∀ (j : Nat) (z : Oj), (s.H.set i x)[j]? = some z → (j = i ∧ z = x) ∨ s.H[j]? = some z := by
  intro j z hz
  rw [List.getElem?_set] at hz
  split at hz
  ·rename_i e
   split at hz
   ·injection hz with hz; exact .inl ⟨e.symm, hz.symm⟩
   ·cases hz
  ·exact .inr hz
 refine ⟨r3.fr, r3.gl, fun j z hz => ?_, fun j k y z g hjk hy hz hyo hat hat2 => ?_, fun j z g hz hzo hat => ?_, r3.kp⟩
 ·rcases at_ j z hz with ⟨rfl, rfl⟩ | h1
  ·exact x4 (r3.hp j o ho)
  ·exact r3.hp j z h1
 ·rcases at_ j y hy with ⟨rfl, rfl⟩ | h1
  ·rw [x1] at hyo; cases hyo
  ·rcases at_ k z hz with ⟨rfl, rfl⟩ | h2
   ·exact r3.sep j k y o g hjk h1 ho hyo hat (x3 _ _ hat2)
   ·exact r3.sep j k y z g hjk h1 h2 hyo hat hat2
 ·rcases at_ j z hz with ⟨rfl, rfl⟩ | h1
  ·rw [x2] at hzo; cases hzo
  ·exact r3.own j z g h1 hzo hat
def dp1 (d : Dpo) (s : S) : Option (List (Nat × Nat) × S) := match d with
 | .wk i => (match s.H[i]? with
  | some o => (match wkO o with | some x => some ([], ⟨s.fr, s.gl, s.H.set i x⟩) | none => none)
  | none => none)
 | .g0 i x => (match s.H[i]?, okS s with
  | some o, true => (match o.kd, emptyX o.cs, Nat.beq o.sz x.sz with
   | .row, true, true => some ([], ⟨s.fr, s.gl, (s.H ++ [(⟨.gs true, o.e, o.sz, 0, .d x []⟩ : Oj)]).set i { o with cs := .g s.H.length 0 o.sz [] }⟩)
   | _, _, _ => none)
  | _, _ => none)
 | .gc i x => (match s.H[i]?, okS s with
  | some o, true => (match o.kd, o.cs, Nat.beq o.sz x.sz with
   | .row, .c l, true => some ([], ⟨s.fr, s.gl, (s.H ++ [(⟨.gs true, o.e, o.sz, 0, .d x []⟩ : Oj)]).set i { o with cs := .g s.H.length 0 o.sz l }⟩)
   | _, _, _ => none)
  | _, _ => none)
 | .aq i ks => (match ghO s.H i, okS s, memN i ks with
  | some q, true, false => (match dcs (msk ks 0 s.H) q.x (q.tl.take q.x.sz), Nat.ble q.x.sz q.tl.length with
   | some y, true => some ([(q.n, q.l.length)], ⟨s.fr, s.gl, (killO ks s.H ++ [(⟨.gs (q.fs && fshL s.H ks), q.og.e, q.o.sz, q.l.length + 1, .d q.x (q.l ++ [y])⟩ : Oj)]).set i { q.o with cs := .g s.H.length (q.l.length + 1) q.o.sz (q.tl.drop q.x.sz) }⟩)
   | _, _ => none)
  | _, _, _ => none)
 | .ab i ks => (match ghO s.H i, okS s, memN i ks with
  | some q, true, false => (match dcs (msk ks 0 s.H) q.x q.tl, Nat.beq q.tl.length q.x.sz with
   | some y, true => some ([(q.n, q.l.length)], ⟨s.fr, s.gl, (killO ks s.H ++ [(⟨.gs (q.fs && fshL s.H ks), q.og.e, q.o.sz, (q.l ++ [y]).length, .d q.x (q.l ++ [y])⟩ : Oj)]).set i ⟨q.o.kd, q.o.e, q.o.sz, (q.l ++ [y]).length, .g s.H.length (q.l ++ [y]).length q.o.sz []⟩⟩)
   | _, _ => none)
  | _, _, _ => none)
 | .fz t => (match s.fr.lookup t with
  | some (.c (.wh i)) => (match ghO s.H i, okS s with
   | some q, true => (match q.tl with
    | [] => some ([(q.n, q.l.length)], ⟨putF s.fr (some t) (.c (.wh s.H.length)), s.gl, killH s.H i ++ [⟨.dp q.fs, q.o.e, q.o.sz, q.l.length, .d q.x q.l⟩]⟩)
    | _ => none)
   | _, _ => none)
  | _ => none)
 | .fzc i k => (match live s.H i, okS s with
  | some o, true => (match o.cs with
   | .g j n sz tl => (match tl[k]? with
    | some (.wh r) => (match ghO s.H r, Nat.beq i r with
     | some q, false => (match q.tl with
      | [] => some ([(q.n, q.l.length)], ⟨s.fr, s.gl, (killH s.H r ++ [(⟨.dp q.fs, q.o.e, q.o.sz, q.l.length, .d q.x q.l⟩ : Oj)]).set i { o with cs := .g j n sz (tl.set k (.wh s.H.length)) }⟩)
      | _ => none)
     | _, _ => none)
    | _ => none)
   | _ => none)
  | _, _ => none)
 | .co c => (match co1 c s with | some s1 => some ([], s1) | none => none)
 | .dn t e x => (match s.fr.lookup t, okS s with
  | some (.c .nils), true => some ([], ⟨putF s.fr (some t) (.c (.wh s.H.length)), s.gl, s.H ++ [⟨.dp true, e, x.sz, 0, .d x []⟩]⟩)
  | _, _ => none)
theorem RelA.recsO (r3 : RelA ρ bs w0 s a w) {i : Nat} {o : Oj} {cs : Cs} (ho : s.H[i]? = some o) (hr : objR ρ w (ρ i) { o with cs := cs }) : RelA ρ bs w0 ⟨s.fr, s.gl, s.H.set i { o with cs := cs }⟩ a w := by
 have at_ : ∀ (j : Nat) (x : Oj), (s.H.set i { o with cs := cs })[j]? = some x → ∃ y, s.H[j]? = some y ∧ (x = y ∨ (j = i ∧ y = o ∧ x = { o with cs := cs })) := by
  intro j x hx
  rw [List.getElem?_set] at hx
  split at hx
  ·rename_i e
   subst e
   split at hx
   ·injection hx with hx; exact ⟨o, ho, .inr ⟨rfl, rfl, hx.symm⟩⟩
   ·cases hx
  ·exact ⟨x, hx, .inl rfl⟩
 refine ⟨r3.fr, r3.gl, fun j x hx => ?_, fun j k x y g hjk hx hy hox hat hat2 => ?_, fun j x g hx hox hat => ?_, r3.kp⟩
 ·obtain ⟨y, hy, rfl | ⟨rfl, rfl, rfl⟩⟩ := at_ j x hx
  ·exact r3.hp j x hy
  ·exact hr
 ·obtain ⟨x', hx', ex⟩ := at_ j x hx
  obtain ⟨y', hy', ey⟩ := at_ k y hy
  refine r3.sep j k x' y' g hjk hx' hy' ?_ ?_ ?_
  ·rcases ex with rfl | ⟨_, rfl, rfl⟩ <;> exact hox
  ·rcases ex with rfl | ⟨_, rfl, rfl⟩ <;> exact hat
  ·rcases ey with rfl | ⟨_, rfl, rfl⟩ <;> exact hat2
 ·obtain ⟨x', hx', ex⟩ := at_ j x hx
  rcases ex with rfl | ⟨_, rfl, rfl⟩
  ·exact r3.own j _ g hx' hox hat
  ·exact r3.own j x' g hx' hox hat
theorem killO_ne {i : Nat} : ∀ {ks : List Nat} {H : Hp}, i ∉ ks → (killO ks H)[i]? = H[i]?
 | [], _, _ => rfl
 | k :: ks, H, h => by
  simp only [List.mem_cons, not_or] at h
  simp only [killO]
  rw [killO_ne h.2]
  split
  ·split
   ·unfold killH
    split
    ·rw [List.getElem?_set_ne (fun e => h.1 e.symm)]
    ·rfl
   ·rfl
  ·rfl
theorem memN_no {i : Nat} : ∀ {l : List Nat}, memN i l = false → i ∉ l
 | [], _, hm => nomatch hm
 | j :: l, h, hm => by
  simp only [memN, Bool.or_eq_false_iff] at h
  rcases List.mem_cons.1 hm with rfl | hm
  ·rw [Nat.beq_refl] at h; cases h.1
  ·exact memN_no h.2 hm
theorem gq_app {α : Type} {l : List α} {y z : α} {k : Nat} (h : gq (l ++ [y]) k = some z) : (k < l.length ∧ gq l k = some z) ∨ (k = l.length ∧ z = y) := by
 unfold gq at h ⊢
 by_cases hk : k < l.length
 ·rw [List.getElem?_append_left hk] at h; exact .inl ⟨hk, h⟩
 ·rw [List.getElem?_append_right (by omega)] at h
  have : k - l.length = 0 := by have := (List.getElem?_eq_some_iff.1 h).1; simp at this; omega
  rw [this] at h
  injection h with h
  exact .inr ⟨by omega, h.symm⟩
theorem row_parts {p : Pl} {o : Oj} (h : objR ρ w p o) (hk : o.kd = .row) : (p.sz = o.sz ∧ p.n = o.n ∧ o.cs.cl.length = o.n * o.sz) ∧ ∃ vs, csR ρ o.cs vs ∧ w.ownsRow 0 o.e o.sz (.slice p.A p.n p.cap) p.n vs := by
 unfold objR at h; simp only [hk] at h; exact h
theorem row_of {p : Pl} {o : Oj} (hk : o.kd = .row) (h : (p.sz = o.sz ∧ p.n = o.n ∧ o.cs.cl.length = o.n * o.sz) ∧ ∃ vs, csR ρ o.cs vs ∧ w.ownsRow 0 o.e o.sz (.slice p.A p.n p.cap) p.n vs) : objR ρ w p o := by
 unfold objR; simp only [hk]; exact h
theorem row_own {o : Oj} (hk : o.kd = .row) : o.own = true := by unfold Oj.own; rw [hk]
theorem RelA.freeze (r3 : RelA ρ bs w0 s a w) (hs : okS s = true) {i : Nat} {q : Gx} (h : ghO s.H i = some q) (ht : q.tl = []) (hn : q.n = q.l.length) (fr : Fr)
  (hfr : ∀ p : Pl, p.A = (ρ i).A → p.n = (ρ i).n → p.cap = (ρ i).cap → FrR (upd ρ s.H.length p) fr a) :
  ∃ p : Pl, p.A = (ρ i).A ∧ p.n = (ρ i).n ∧ p.cap = (ρ i).cap ∧ RelA (upd ρ s.H.length p) bs w0 ⟨fr, s.gl, killH s.H i ++ [⟨.dp q.fs, q.o.e, q.o.sz, q.l.length, .d q.x q.l⟩]⟩ a w := by
 obtain ⟨o, j, n, tl, og, fs, x, l⟩ := q
 obtain ⟨h1, h2, h3, h4, h5, h6, h7, h8⟩ := ghO_ok h
 simp only at h1 h2 h3 h4 h5 h6 h7 h8 ht hn ⊢
 subst ht; subst hn
 have hr := r3.hp i o h1
 obtain ⟨⟨e1, e2, e3⟩, vs, hc, hrow⟩ := row_parts hr h2
 obtain ⟨g1, g2, g3⟩ := hr.slc (.inr (.inl h2))
 obtain ⟨_, vs', hc', hAt⟩ := hr.read (by rw [h2]; simp)
 have hG := gh_at r3.hp h4 h5 h6
 have hsz := x.sz_pos
 rw [h3] at e3 hc hc'
 have hln : o.n = l.length := by
  have : (Cs.g j l.length x.sz []).cl.length = l.length * x.sz := by show (ghc _ _ _ ++ []).length = _; rw [List.append_nil, ghc_len]
  rw [this, h7] at e3
  exact Nat.eq_of_mul_eq_mul_right hsz e3.symm
 have hcv : F2 (clR ρ) (ghc j l.length x.sz) vs' := by
  have : F2 (clR ρ) (ghc j l.length x.sz ++ []) vs' := hc'
  rwa [List.append_nil] at this
 let gv' : Way → Value := fun p => match p with | [] => .slice (ρ i).A l.length (ρ i).cap | p => (ρ j).gv p
 have hgv : ∀ (u : Way) (k g : Nat), gv' (u ++ [(k, g)]) = (ρ j).gv (u ++ [(k, g)]) := fun u k g => by cases u <;> rfl
 let F' : Nat → Prop := fun g => (ρ j).foot g ∨ ∃ ad, (ρ i).A = some ad ∧ ad.block = g
 have hspine : ∀ ad, (ρ i).A = some ad → objAt (ρ i) o ad.block := fun ad hA => objAt_own (row_own h2) hA
 have hoj : ∀ (j' : Nat) (x' : Oj) (g : Nat), (killH s.H i)[j']? = some x' → x'.own = true → objAt (ρ j') x' g → ¬ F' g := by
  intro j' x' g hx' hox hat hF
  rcases killH_at hx' with hd | ⟨hne, hx1⟩
  ·unfold Oj.own at hox; rw [hd] at hox; cases hox
  ·rcases hF with hF | ⟨ad, hA, rfl⟩
   ·refine r3.sep j' j x' og g ?_ hx1 h4 hox hat (by unfold objAt; simp only [h5]; exact hF)
    intro e; subst e; rw [h4] at hx1; injection hx1 with hx1; subst hx1
    unfold Oj.own at hox; rw [h5] at hox; cases hox
   ·exact r3.sep i j' o x' _ (fun e => hne e.symm) h1 hx1 (row_own h2) (hspine ad hA) hat
 refine ⟨⟨(ρ i).A, l.length, (ρ i).cap, x.sz, F', gv'⟩, rfl, by rw [e2, hln], rfl, r3.new hs rfl (killH_len s.H i) (fun j' x' hx' => ?_) r3.kp ?_ (fun _ j' x' g hx' hxk hat hor hat2 => ?_) (fun hfs g hat => ?_) fr a (hfr _ rfl (by rw [e2, hln]) rfl)⟩
 ·rcases killH_at hx' with hd | ⟨_, hx1⟩
  ·exact .inl hd
  ·exact .inr ⟨hx1, r3.hp j' x' hx1⟩
 ·refine (show DpR w (⟨(ρ i).A, l.length, (ρ i).cap, x.sz, F', gv'⟩ : Pl) (⟨.dp fs, o.e, o.sz, l.length, .d x l⟩ : Oj) from ?_)
  refine ⟨⟨h7.symm, rfl, rfl, h7⟩, rfl, ?_, (ρ i).A, (ρ i).cap, rfl, by rw [← hln, ← e2]; exact g1, g2, g3, fun ad ha _ => .inr ⟨ad, ha, rfl⟩, fun k y hy => ⟨fun ad ha g hg => ?_, ?_⟩⟩
  ·rintro g (hF | ⟨ad, hA, rfl⟩)
   ·exact hG.lt g hF
   ·exact objAt_lt hr (hspine ad hA)
  ·have hk := gq_lt hy
   have e5 := ghc_at hsz hcv hk hg
   rw [hAt ad ha _ _ e5]
  ·exact DR.map x y _ _ 0 (fun u g _ _ => hgv u k g) (DR.foot (fun g hg => .inl hg) x y _ 0 (hG.el k y hy))
 ·rcases hor with hox | hox
  ·exact hoj j' x' g hx' hox hat2 hat
  ·exact absurd hox Bool.false_ne_true
 ·have hfs' : fs = true := by unfold Oj.fsh at hfs; cases fs with | true => rfl | false => cases hfs
  subst hfs'
  rcases (show F' g from hat) with hF | ⟨ad, hA, rfl⟩
  ·exact own3 (r3.own j og g h4 (by unfold Oj.fsh; rw [h5]) (by unfold objAt; simp only [h5]; exact hF)) rfl
  ·exact two3 (r3.own.o h1 (row_own h2) (hspine ad hA))
theorem RelA.absorb0 (r3 : RelA ρ bs w0 s a w) (hs : okS s = true) {i : Nat} {q : Gx} (h : ghO s.H i = some q) {ks : List Nat} (hik : i ∉ ks) {y : q.x.T} (hy : dcs (msk ks 0 s.H) q.x q.tl = some y) (htl : q.tl.length = q.x.sz) (hn : q.n = q.l.length) :
  ∃ ρ', RelA ρ' bs w0 ⟨s.fr, s.gl, (killO ks s.H ++ [(⟨.gs (q.fs && fshL s.H ks), q.og.e, q.o.sz, q.l.length + 1, .d q.x (q.l ++ [y])⟩ : Oj)]).set i { q.o with cs := .g s.H.length (q.l.length + 1) q.o.sz [] }⟩ a w := by
 obtain ⟨o, j, n, tl, og, fs, x, l⟩ := q
 obtain ⟨h1, h2, h3, h4, h5, h6, h7, h8⟩ := ghO_ok h
 simp only at h1 h2 h3 h4 h5 h6 h7 h8 hn htl hy y ⊢
 subst hn
 have hr := r3.hp i o h1
 obtain ⟨⟨e1, e2, e3⟩, vs, hc, hrow⟩ := row_parts hr h2
 have hG := gh_at r3.hp h4 h5 h6
 have hsz := x.sz_pos
 rw [h3] at e3 hc
 have hcl : (Cs.g j l.length x.sz tl).cl.length = l.length * x.sz + x.sz := by show (ghc _ _ _ ++ tl).length = _; rw [List.length_append, ghc_len, htl]
 have hlen : o.n * x.sz = (l.length + 1) * x.sz := by rw [hcl, h7] at e3; rw [Nat.add_mul, Nat.one_mul]; exact e3.symm
 have hc2 : F2 (clR ρ) (ghc j l.length x.sz ++ tl) vs := hc
 have hv1 := hc2.take (l.length * x.sz)
 have hv2 := hc2.drop (l.length * x.sz)
 rw [List.take_left' (ghc_len _ _ _)] at hv1
 rw [List.drop_left' (ghc_len _ _ _)] at hv2
 have hvl : vs.length = (l.length + 1) * x.sz := by rw [hc.len, hcl, Nat.add_mul, Nat.one_mul]
 -- the element is read among what may be looked at
 have hpm : HpR ρ w (msk ks 0 s.H) := fun k z hz => by
  rcases msk_at hz with hd | ⟨_, hz1⟩
  ·unfold objR; simp only [hd]
  ·exact r3.hp k z hz1
 obtain ⟨F, gv, f1, f2, f3⟩ := dcs_ok hpm x tl y hy _ hv2
 have f2' : ∀ g, F g → ∃ k z, k ∈ ks ∧ s.H[k]? = some z ∧ objAt (ρ k) z g := fun g hg => by
  obtain ⟨k, z, hz, hat⟩ := f2 g hg
  rcases msk_at hz with hd | ⟨hk, hz1⟩
  ·unfold objAt at hat; simp only [hd] at hat
  ·rw [Nat.zero_add] at hk; exact ⟨k, z, hk, hz1, hat⟩
 let gv' : Way → Value := fun p => match p.getLast? with | none => undef | some (k, g) => if k < l.length then (ρ j).gv p else gv (p.dropLast ++ [(0, g)])
 have hgv1 : ∀ (u : Way) (k g : Nat), k < l.length → gv' (u ++ [(k, g)]) = (ρ j).gv (u ++ [(k, g)]) := fun u k g hk => by
  show (match (u ++ [(k, g)]).getLast? with | none => _ | some (k, g) => _) = _
  rw [List.getLast?_append]; simp only [List.getLast?_singleton, Option.some_or]; rw [if_pos hk]
 have hgv2 : ∀ (u : Way) (g : Nat), gv' (u ++ [(l.length, g)]) = gv (u ++ [(0, g)]) := fun u g => by
  show (match (u ++ [(l.length, g)]).getLast? with | none => _ | some (k, g) => _) = _
  rw [List.getLast?_append, List.dropLast_concat]; simp only [List.getLast?_singleton, Option.some_or]; rw [if_neg (Nat.lt_irrefl _)]
 let F' : Nat → Prop := fun g => (ρ j).foot g ∨ F g
 let p' : Pl := ⟨none, l.length + 1, 0, x.sz, F', gv'⟩
 have hob : objR ρ w p' (⟨.gs (fs && fshL s.H ks), og.e, o.sz, l.length + 1, .d x (l ++ [y])⟩ : Oj) := by
  refine (show GsR w p' (⟨.gs (fs && fshL s.H ks), og.e, o.sz, l.length + 1, .d x (l ++ [y])⟩ : Oj) from ⟨rfl, ⟨h7.symm, rfl, by simp, h7⟩, ?_, fun k z hz => ?_⟩)
  ·rintro g (hg | hg)
   ·exact hG.lt g hg
   ·exact atB_lt hpm g (f2 g hg)
  ·rcases gq_app hz with ⟨hk, hz⟩ | ⟨rfl, rfl⟩
   ·exact DR.map x z _ _ 0 (fun u g _ _ => hgv1 u k g hk) (DR.foot (fun g hg => .inl hg) x z _ 0 (hG.el k z hz))
   ·exact DR.map x _ (fun g => [(0, g)]) (fun g => [(l.length, g)]) 0 (fun u g _ _ => hgv2 u g) (DR.foot (fun g hg => .inr hg) x _ _ 0 f3)
 have r4 := r3.new hs (o := ⟨.gs (fs && fshL s.H ks), og.e, o.sz, l.length + 1, .d x (l ++ [y])⟩) rfl (killO_len ks s.H) (fun j' x' hx' => by
   rcases killO_at hx' with hd | ⟨hx1, _⟩
   ·exact .inl hd
   ·exact .inr ⟨hx1, r3.hp j' x' hx1⟩) r3.kp hob (fun _ j' x' g hx' hxk hat hor hat2 => by
   rcases hor with hox | hox
   ·rcases killO_at hx' with hd | ⟨hx1, hnk⟩
    ·exact hxk hd
    ·rcases (show F' g from hat) with hF | hF
     ·refine r3.sep j' j x' og g ?_ hx1 h4 hox hat2 (by unfold objAt; simp only [h5]; exact hF)
      intro e; subst e; rw [h4] at hx1; injection hx1 with hx1; subst hx1
      unfold Oj.own at hox; rw [h5] at hox; cases hox
     ·obtain ⟨k, z, hk, hz, hat3⟩ := f2' g hF
      refine r3.sep j' k x' z g ?_ hx1 hz hox hat2 hat3
      intro e; subst e; exact hnk hox hk
   ·cases hox) (fun hfs g hat => by
   have hb : (fs && fshL s.H ks) = true := by
    unfold Oj.fsh at hfs
    cases hb : (fs && fshL s.H ks) with
    | true => rfl
    | false => rw [hb] at hfs; cases hfs
   simp only [Bool.and_eq_true] at hb
   rcases (show F' g from hat) with hF | hF
   ·exact own3 (r3.own j og g h4 (by unfold Oj.fsh; rw [h5, hb.1]) (by unfold objAt; simp only [h5]; exact hF)) rfl
   ·obtain ⟨k, z, hk, hz, hat3⟩ := f2' g hF
    obtain ⟨z', hz', hf⟩ := fshL_ok hb.2 k hk
    rw [hz] at hz'; injection hz' with hz'; subst hz'
    exact own3 (r3.own k z g hz hf hat3) rfl) s.fr a (fun t x hx => ltA_ok upd_lt (ltF_ok (okS_ok hs).1 t x hx) (r3.fr t x hx))
 have hi : i < s.H.length := (List.getElem?_eq_some_iff.1 h1).1
 refine ⟨_, r4.recsO (i := i) (o := o) (cs := .g s.H.length (l.length + 1) o.sz []) (by show (killO ks s.H ++ [_])[i]? = some o; rw [List.getElem?_append_left (by rw [killO_len]; exact hi), killO_ne hik]; exact h1) ?_⟩
 rw [upd_lt i hi]
 refine row_of h2 ⟨⟨e1, e2, ?_⟩, vs, ?_, hrow⟩
 ·show (ghc _ _ _ ++ []).length = o.n * o.sz
  rw [List.append_nil, ghc_len, h7, hlen]
 ·show F2 _ (ghc _ _ _ ++ []) vs
  rw [List.append_nil, h7]
  refine ghc_of hsz hvl (fun k g hk hg => ?_)
  rw [upd_at]
  show _ = some (gv' ([] ++ [(k, g)]))
  by_cases hkl : k < l.length
  ·rw [hgv1 [] k g hkl, List.nil_append, ← ghc_at hsz hv1 hkl hg, List.getElem?_take, if_pos]
   have : (k + 1) * x.sz ≤ l.length * x.sz := Nat.mul_le_mul_right _ hkl
   rw [Nat.add_mul, Nat.one_mul] at this; omega
  ·have : k = l.length := by omega
   subst this
   rw [hgv2 [] g, List.nil_append, f1 g hg, List.getElem?_drop]
theorem ltL_drop {m : Nat} : ∀ {l : List Cl}, ltL m l = true → ∀ n : Nat, ltL m (l.drop n) = true
 | [], h, n => by rw [List.drop_nil]; exact h
 | x :: l, h, 0 => h
 | x :: l, h, n + 1 => by
  simp only [ltL, Bool.and_eq_true] at h
  exact ltL_drop h.2 n
theorem RelA.absorb1 (r3 : RelA ρ bs w0 s a w) (hs : okS s = true) {i : Nat} {q : Gx} (h : ghO s.H i = some q) {ks : List Nat} (hik : i ∉ ks) {y : q.x.T} (hy : dcs (msk ks 0 s.H) q.x (q.tl.take q.x.sz) = some y) (htl : q.x.sz ≤ q.tl.length) (hn : q.n = q.l.length) :
  ∃ ρ', RelA ρ' bs w0 ⟨s.fr, s.gl, (killO ks s.H ++ [(⟨.gs (q.fs && fshL s.H ks), q.og.e, q.o.sz, q.l.length + 1, .d q.x (q.l ++ [y])⟩ : Oj)]).set i { q.o with cs := .g s.H.length (q.l.length + 1) q.o.sz (q.tl.drop q.x.sz) }⟩ a w := by
 obtain ⟨o, j, n, tl, og, fs, x, l⟩ := q
 obtain ⟨h1, h2, h3, h4, h5, h6, h7, h8⟩ := ghO_ok h
 simp only at h1 h2 h3 h4 h5 h6 h7 h8 hn htl hy y ⊢
 subst hn
 have hr := r3.hp i o h1
 obtain ⟨⟨e1, e2, e3⟩, vs, hc, hrow⟩ := row_parts hr h2
 have hG := gh_at r3.hp h4 h5 h6
 have hsz := x.sz_pos
 rw [h3] at e3 hc
 have hcl : (Cs.g j l.length x.sz tl).cl.length = l.length * x.sz + tl.length := by show (ghc _ _ _ ++ tl).length = _; rw [List.length_append, ghc_len]
 have hlen : o.n * x.sz = l.length * x.sz + tl.length := by rw [hcl, h7] at e3; exact e3.symm
 have hq1 : (l.length + 1) * x.sz = l.length * x.sz + x.sz := by rw [Nat.add_mul, Nat.one_mul]
 have hc2 : F2 (clR ρ) (ghc j l.length x.sz ++ tl) vs := hc
 have hv1 := hc2.take (l.length * x.sz)
 have hv2 := hc2.drop (l.length * x.sz)
 rw [List.take_left' (ghc_len _ _ _)] at hv1
 rw [List.drop_left' (ghc_len _ _ _)] at hv2
 have hvl : vs.length = l.length * x.sz + tl.length := by rw [hc.len, hcl]
 have hv3 := hv2.take x.sz
 have hv4 := hv2.drop x.sz
 -- the element is read among what may be looked at
 have hpm : HpR ρ w (msk ks 0 s.H) := fun k z hz => by
  rcases msk_at hz with hd | ⟨_, hz1⟩
  ·unfold objR; simp only [hd]
  ·exact r3.hp k z hz1
 obtain ⟨F, gv, f1, f2, f3⟩ := dcs_ok hpm x (tl.take x.sz) y hy _ hv3
 have f2' : ∀ g, F g → ∃ k z, k ∈ ks ∧ s.H[k]? = some z ∧ objAt (ρ k) z g := fun g hg => by
  obtain ⟨k, z, hz, hat⟩ := f2 g hg
  rcases msk_at hz with hd | ⟨hk, hz1⟩
  ·unfold objAt at hat; simp only [hd] at hat
  ·rw [Nat.zero_add] at hk; exact ⟨k, z, hk, hz1, hat⟩
 let gv' : Way → Value := fun p => match p.getLast? with | none => undef | some (k, g) => if k < l.length then (ρ j).gv p else gv (p.dropLast ++ [(0, g)])
 have hgv1 : ∀ (u : Way) (k g : Nat), k < l.length → gv' (u ++ [(k, g)]) = (ρ j).gv (u ++ [(k, g)]) := fun u k g hk => by
  show (match (u ++ [(k, g)]).getLast? with | none => _ | some (k, g) => _) = _
  rw [List.getLast?_append]; simp only [List.getLast?_singleton, Option.some_or]; rw [if_pos hk]
 have hgv2 : ∀ (u : Way) (g : Nat), gv' (u ++ [(l.length, g)]) = gv (u ++ [(0, g)]) := fun u g => by
  show (match (u ++ [(l.length, g)]).getLast? with | none => _ | some (k, g) => _) = _
  rw [List.getLast?_append, List.dropLast_concat]; simp only [List.getLast?_singleton, Option.some_or]; rw [if_neg (Nat.lt_irrefl _)]
 let F' : Nat → Prop := fun g => (ρ j).foot g ∨ F g
 let p' : Pl := ⟨none, l.length + 1, 0, x.sz, F', gv'⟩
 have hob : objR ρ w p' (⟨.gs (fs && fshL s.H ks), og.e, o.sz, l.length + 1, .d x (l ++ [y])⟩ : Oj) := by
  refine (show GsR w p' (⟨.gs (fs && fshL s.H ks), og.e, o.sz, l.length + 1, .d x (l ++ [y])⟩ : Oj) from ⟨rfl, ⟨h7.symm, rfl, by simp, h7⟩, ?_, fun k z hz => ?_⟩)
  ·rintro g (hg | hg)
   ·exact hG.lt g hg
   ·exact atB_lt hpm g (f2 g hg)
  ·rcases gq_app hz with ⟨hk, hz⟩ | ⟨rfl, rfl⟩
   ·exact DR.map x z _ _ 0 (fun u g _ _ => hgv1 u k g hk) (DR.foot (fun g hg => .inl hg) x z _ 0 (hG.el k z hz))
   ·exact DR.map x _ (fun g => [(0, g)]) (fun g => [(l.length, g)]) 0 (fun u g _ _ => hgv2 u g) (DR.foot (fun g hg => .inr hg) x _ _ 0 f3)
 have r4 := r3.new hs (o := ⟨.gs (fs && fshL s.H ks), og.e, o.sz, l.length + 1, .d x (l ++ [y])⟩) rfl (killO_len ks s.H) (fun j' x' hx' => by
   rcases killO_at hx' with hd | ⟨hx1, _⟩
   ·exact .inl hd
   ·exact .inr ⟨hx1, r3.hp j' x' hx1⟩) r3.kp hob (fun _ j' x' g hx' hxk hat hor hat2 => by
   rcases hor with hox | hox
   ·rcases killO_at hx' with hd | ⟨hx1, hnk⟩
    ·exact hxk hd
    ·rcases (show F' g from hat) with hF | hF
     ·refine r3.sep j' j x' og g ?_ hx1 h4 hox hat2 (by unfold objAt; simp only [h5]; exact hF)
      intro e; subst e; rw [h4] at hx1; injection hx1 with hx1; subst hx1
      unfold Oj.own at hox; rw [h5] at hox; cases hox
     ·obtain ⟨k, z, hk, hz, hat3⟩ := f2' g hF
      refine r3.sep j' k x' z g ?_ hx1 hz hox hat2 hat3
      intro e; subst e; exact hnk hox hk
   ·cases hox) (fun hfs g hat => by
   have hb : (fs && fshL s.H ks) = true := by
    unfold Oj.fsh at hfs
    cases hb : (fs && fshL s.H ks) with
    | true => rfl
    | false => rw [hb] at hfs; cases hfs
   simp only [Bool.and_eq_true] at hb
   rcases (show F' g from hat) with hF | hF
   ·exact own3 (r3.own j og g h4 (by unfold Oj.fsh; rw [h5, hb.1]) (by unfold objAt; simp only [h5]; exact hF)) rfl
   ·obtain ⟨k, z, hk, hz, hat3⟩ := f2' g hF
    obtain ⟨z', hz', hf⟩ := fshL_ok hb.2 k hk
    rw [hz] at hz'; injection hz' with hz'; subst hz'
    exact own3 (r3.own k z g hz hf hat3) rfl) s.fr a (fun t x hx => ltA_ok upd_lt (ltF_ok (okS_ok hs).1 t x hx) (r3.fr t x hx))
 have hi : i < s.H.length := (List.getElem?_eq_some_iff.1 h1).1
 have hlt : ltL s.H.length (tl.drop x.sz) = true := by
  have := ltH_ok (okS_ok hs).2.2 i o h1 (by rw [h2]; exact fun h => by cases h)
  rw [h3] at this
  simp only [ltX, Bool.and_eq_true] at this
  exact ltL_drop this.2 _
 refine ⟨_, r4.recsO (i := i) (o := o) (cs := .g s.H.length (l.length + 1) o.sz (tl.drop x.sz)) (by show (killO ks s.H ++ [_])[i]? = some o; rw [List.getElem?_append_left (by rw [killO_len]; exact hi), killO_ne hik]; exact h1) ?_⟩
 rw [upd_lt i hi]
 refine row_of h2 ⟨⟨e1, e2, ?_⟩, vs, ?_, hrow⟩
 ·show (ghc _ _ _ ++ tl.drop x.sz).length = o.n * o.sz
  rw [List.length_append, ghc_len, List.length_drop, h7, hlen]; omega
 ·show F2 _ (ghc _ _ _ ++ tl.drop x.sz) vs
  rw [← List.take_append_drop ((l.length + 1) * x.sz) vs, h7]
  refine F2.append (ghc_of hsz (by rw [List.length_take]; omega) (fun k g hk hg => ?_)) ?_
  ·have hkg : k * x.sz + g < (l.length + 1) * x.sz := by
    have : (k + 1) * x.sz ≤ (l.length + 1) * x.sz := Nat.mul_le_mul_right _ hk
    rw [Nat.add_mul, Nat.one_mul] at this; omega
   rw [upd_at, List.getElem?_take, if_pos hkg]
   show _ = some (gv' ([] ++ [(k, g)]))
   by_cases hkl : k < l.length
   ·rw [hgv1 [] k g hkl, List.nil_append, ← ghc_at hsz hv1 hkl hg, List.getElem?_take, if_pos]
    have : (k + 1) * x.sz ≤ l.length * x.sz := Nat.mul_le_mul_right _ hkl
    rw [Nat.add_mul, Nat.one_mul] at this; omega
   ·have : k = l.length := by omega
    subst this
    rw [hgv2 [] g, List.nil_append, f1 g hg, List.getElem?_take, if_pos hg, List.getElem?_drop]
  ·rw [hq1, ← List.drop_drop]
   exact F2.mono hv4 fun c hc v hr => ltC_ok upd_lt (ltL_ok (ρ := ρ) (ρ' := ρ) (fun _ _ => rfl) hlt c hc) hr
theorem RelA.absorb (r3 : RelA ρ bs w0 s a w) (hs : okS s = true) {i : Nat} {q : Gx} (h : ghO s.H i = some q) {ks : List Nat} (hik : i ∉ ks) {y : q.x.T} (hy : dcs (msk ks 0 s.H) q.x q.tl = some y) (htl : q.tl.length = q.x.sz) (hn : q.n = q.l.length) :
  ∃ ρ', RelA ρ' bs w0 ⟨s.fr, s.gl, (killO ks s.H ++ [(⟨.gs (q.fs && fshL s.H ks), q.og.e, q.o.sz, (q.l ++ [y]).length, .d q.x (q.l ++ [y])⟩ : Oj)]).set i ⟨q.o.kd, q.o.e, q.o.sz, (q.l ++ [y]).length, .g s.H.length (q.l ++ [y]).length q.o.sz []⟩⟩ a w := by
 have h0 := r3.absorb0 hs h hik hy htl hn
 have hx := ghO_ok h
 have e1 : (q.l ++ [y]).length = q.l.length + 1 := by simp
 have e2 : q.o.n = q.l.length + 1 := by
  have e3 := (row_parts (r3.hp i q.o hx.1) hx.2.1).1.2.2
  rw [hx.2.2.1, hx.2.2.2.2.2.2.1] at e3
  have e4 : (Cs.g q.j q.n q.x.sz q.tl).cl.length = (q.l.length + 1) * q.x.sz := by show (ghc _ _ _ ++ q.tl).length = _; rw [List.length_append, ghc_len, htl, hn, Nat.add_mul, Nat.one_mul]
  rw [e4] at e3
  exact Nat.eq_of_mul_eq_mul_right q.x.sz_pos e3.symm
 rw [e1]
 rw [show ({ q.o with cs := .g s.H.length (q.l.length + 1) q.o.sz [] } : Oj) = ⟨q.o.kd, q.o.e, q.o.sz, q.l.length + 1, .g s.H.length (q.l.length + 1) q.o.sz []⟩ by rw [← e2]] at h0
 exact h0
theorem g_deep {p : Pl} {o : Oj} {j n sz : Nat} {tl : List Cl} (h : objR ρ w p o) (hc : o.cs = .g j n sz tl) : o.deep = false := by
 unfold objR at h
 unfold Oj.deep
 cases hk : o.kd <;> simp only [hk] at h ⊢
 ·unfold DpR at h; rw [hc] at h; exact h.elim
 ·unfold GsR at h; rw [hc] at h; exact h.2.elim
theorem ltF_fr (r3 : RelA ρ bs w0 s a w) (hs : okS s = true) {p : Pl} : FrR (upd ρ s.H.length p) s.fr a := fun t x hx => ltA_ok upd_lt (ltF_ok (okS_ok hs).1 t x hx) (r3.fr t x hx)
theorem dp1_ok {d : Dpo} {es : List (Nat × Nat)} (h : dp1 d s = some (es, s')) (he : ∀ q ∈ es, q.1 = q.2) (hR : Rel N bs w0 s a w) : Rel N bs w0 s' a w := by
 by_cases hcc : ∃ c, d = .co c
 ·obtain ⟨c, rfl⟩ := hcc
  simp only [dp1] at h
  split at h
  ·rename_i s1 h1
   injection h with h; injection h with _ h; subst h
   exact co1_ok h1 hR
  ·cases h
 obtain ⟨r1, r2, ρ, r3⟩ := hR
 refine ⟨r1, r2, ?_⟩
 cases d with
 | co c => exact absurd ⟨c, rfl⟩ hcc
 | g0 i x =>
  simp only [dp1] at h
  split at h
  ·rename_i o ho hs
   split at h
   ·rename_i hk hem hsz
    injection h with h; injection h with _ h; subst h
    have hsz := Nat.eq_of_beq_eq_true hsz
    have hem := emptyX_ok hem
    have hi : i < s.H.length := (List.getElem?_eq_some_iff.1 ho).1
    obtain ⟨⟨e1, e2, e3⟩, vs, hc, hrow⟩ := row_parts (r3.hp i o ho) hk
    have r4 := r3.new hs (o := ⟨.gs true, o.e, o.sz, 0, .d x []⟩) (p := ⟨none, 0, 0, x.sz, fun _ => False, fun _ => undef⟩) rfl rfl (fun j z hz => .inr ⟨hz, r3.hp j z hz⟩) r3.kp
     ⟨rfl, ⟨hsz.symm, rfl, rfl, hsz⟩, fun g hg => hg.elim, fun k y hy => nomatch hy⟩ (fun _ _ _ _ _ _ hat => hat.elim) (fun _ _ hat => hat.elim) s.fr a (ltF_fr r3 hs)
    refine ⟨_, r4.recsO (i := i) (o := o) (cs := .g s.H.length 0 o.sz []) (by show (s.H ++ [_])[i]? = some o; rw [List.getElem?_append_left hi]; exact ho) ?_⟩
    rw [upd_lt i hi]
    refine row_of hk ⟨⟨e1, e2, ?_⟩, vs, ?_, hrow⟩
    ·show (ghc _ _ _ ++ []).length = _
     rw [List.append_nil, ghc_len, ← e3, hem, Nat.zero_mul]; rfl
    ·have hv := hc.len
     rw [hem] at hv
     have : vs = [] := List.eq_nil_of_length_eq_zero (by simpa using hv)
     subst this
     show F2 _ (ghc _ _ _ ++ []) []
     have : ghc s.H.length 0 o.sz = [] := List.eq_nil_of_length_eq_zero (by rw [ghc_len, Nat.zero_mul])
     rw [this]; exact F2.nil
   ·cases h
  ·cases h
 | gc i x =>
  simp only [dp1] at h
  split at h
  ·rename_i o ho hs
   split at h
   ·rename_i l hk hcs hsz
    injection h with h; injection h with _ h; subst h
    have hsz := Nat.eq_of_beq_eq_true hsz
    have hi : i < s.H.length := (List.getElem?_eq_some_iff.1 ho).1
    obtain ⟨⟨e1, e2, e3⟩, vs, hc, hrow⟩ := row_parts (r3.hp i o ho) hk
    have r4 := r3.new hs (o := ⟨.gs true, o.e, o.sz, 0, .d x []⟩) (p := ⟨none, 0, 0, x.sz, fun _ => False, fun _ => undef⟩) rfl rfl (fun j z hz => .inr ⟨hz, r3.hp j z hz⟩) r3.kp
     ⟨rfl, ⟨hsz.symm, rfl, rfl, hsz⟩, fun g hg => hg.elim, fun k y hy => nomatch hy⟩ (fun _ _ _ _ _ _ hat => hat.elim) (fun _ _ hat => hat.elim) s.fr a (ltF_fr r3 hs)
    have hlt : ltX s.H.length o.cs = true := ltH_ok (okS_ok hs).2.2 i o ho (by rw [hk]; exact fun h => by cases h)
    have hg0 : ghc s.H.length 0 o.sz = [] := List.eq_nil_of_length_eq_zero (by rw [ghc_len, Nat.zero_mul])
    refine ⟨_, r4.recsO (i := i) (o := o) (cs := .g s.H.length 0 o.sz l) (by show (s.H ++ [_])[i]? = some o; rw [List.getElem?_append_left hi]; exact ho) ?_⟩
    rw [upd_lt i hi]
    refine row_of hk ⟨⟨e1, e2, ?_⟩, vs, ?_, hrow⟩
    ·show (ghc _ _ _ ++ l).length = _
     rw [hg0, List.nil_append, ← e3, hcs]; rfl
    ·show F2 _ (ghc _ _ _ ++ l) vs
     rw [hg0, List.nil_append]
     have := ltX_ok (ρ' := upd ρ s.H.length ⟨none, 0, 0, x.sz, fun _ => False, fun _ => undef⟩) upd_lt hlt hc
     rw [hcs] at this
     exact this
   ·cases h
  ·cases h
 | aq i ks =>
  simp only [dp1] at h
  split at h
  ·rename_i q hq hs hm
   split at h
   ·rename_i y hy htl
    injection h with h; injection h with h1 h; subst h
    exact r3.absorb1 hs hq (memN_no hm) hy (Nat.le_of_ble_eq_true htl) (he _ (by rw [← h1]; exact List.mem_singleton.2 rfl))
   ·cases h
  ·cases h
 | ab i ks =>
  simp only [dp1] at h
  split at h
  ·rename_i q hq hs hm
   split at h
   ·rename_i y hy htl
    injection h with h; injection h with h1 h; subst h
    exact r3.absorb hs hq (memN_no hm) hy (Nat.eq_of_beq_eq_true htl) (he _ (by rw [← h1]; exact List.mem_singleton.2 rfl))
   ·cases h
  ·cases h
 | fz t =>
  simp only [dp1] at h
  split at h
  ·rename_i i hl
   split at h
   ·rename_i q hq hs
    split at h
    ·rename_i htl
     injection h with h; injection h with h1 h; subst h
     have hv := r3.fr t _ hl
     obtain ⟨p, _, _, _, r4⟩ := r3.freeze hs hq htl (he _ (by rw [← h1]; exact List.mem_singleton.2 rfl)) (putF s.fr (some t) (.c (.wh s.H.length))) (fun p e1 e2 e3 => by
      refine FrR.same (ltF_fr r3 hs) ?_
      show _ = Value.slice _ _ _
      rw [upd_at, e1, e2, e3]; exact hv)
     exact ⟨_, r4⟩
    ·cases h
   ·cases h
  ·cases h
 | fzc i k =>
  simp only [dp1] at h
  split at h
  ·rename_i o hlo hs
   obtain ⟨ho, hod⟩ := live_ok hlo
   split at h
   ·rename_i j n sz tl hcs
    split at h
    ·rename_i r hk
     split at h
     ·rename_i q hq hir
      split at h
      ·rename_i htl
       injection h with h; injection h with h1 h; subst h
       have hne : i ≠ r := fun e => by rw [e, Nat.beq_refl] at hir; cases hir
       obtain ⟨p, e1, e2, e3, r4⟩ := r3.freeze hs hq htl (he _ (by rw [← h1]; exact List.mem_singleton.2 rfl)) s.fr (fun p _ _ _ => ltF_fr r3 hs)
       have hi : i < s.H.length := (List.getElem?_eq_some_iff.1 ho).1
       have hki : (killH s.H r)[i]? = some o := by
        unfold killH
        split
        ·rw [List.getElem?_set_ne (fun e => hne e.symm)]; exact ho
        ·exact ho
       refine ⟨_, r4.recs (i := i) (o := o) (by show (killH s.H r ++ [_])[i]? = some o; rw [List.getElem?_append_left (by rw [killH_len]; exact hi)]; exact hki) (fun vs hvs => ?_) ?_ (g_deep (r3.hp i o ho) hcs)⟩
       ·rw [hcs] at hvs
        have hvs' : F2 (clR (upd ρ s.H.length p)) (ghc j n sz ++ tl) vs := hvs
        have h1 := hvs'.take (n * sz)
        have h2 := hvs'.drop (n * sz)
        rw [List.take_left' (ghc_len _ _ _)] at h1
        rw [List.drop_left' (ghc_len _ _ _)] at h2
        have h3 : F2 (clR (upd ρ s.H.length p)) (tl.set k (.wh s.H.length)) (vs.drop (n * sz)) := by
         refine ⟨by rw [List.length_set]; exact h2.1, fun q' x y hx hy => ?_⟩
         rw [List.getElem?_set] at hx
         split at hx
         ·rename_i e4
          subst e4
          split at hx
          ·injection hx with hx; subst hx
           have h5 := h2.2 k _ y hk hy
           show y = _
           rw [upd_at, e1, e2, e3]
           rw [← upd_lt (ρ := ρ) (p := p) r (List.getElem?_eq_some_iff.1 (ghO_ok hq).1).1]
           exact h5
          ·cases hx
         ·exact h2.2 q' x y hx hy
        have := F2.append h1 h3
        rw [List.take_append_drop] at this
        exact this
       ·rw [hcs]; show (ghc _ _ _ ++ _).length = (ghc _ _ _ ++ _).length
        rw [List.length_append, List.length_append, List.length_set]
      ·cases h
     ·cases h
    ·cases h
   ·cases h
  ·cases h
 | wk i =>
  simp only [dp1] at h
  split at h
  ·rename_i o ho
   split at h
   ·rename_i x hx
    injection h with h; injection h with _ h; subst h
    exact ⟨_, r3.wk ho hx⟩
   ·cases h
  ·cases h
 | dn t e x =>
  simp only [dp1] at h
  split at h
  ·rename_i hl hs
   injection h with h; injection h with _ h; subst h
   have hv := r3.fr t _ hl
   refine ⟨_, r3.new hs (o := ⟨.dp true, e, x.sz, 0, .d x []⟩) (p := ⟨none, 0, 0, x.sz, fun _ => False, fun _ => .slice none 0 0⟩) rfl rfl (fun j z hz => .inr ⟨hz, r3.hp j z hz⟩) r3.kp
     ⟨⟨rfl, rfl, rfl, rfl⟩, rfl, fun g hg => hg.elim, none, 0, rfl, Nat.le_refl _, by simp [maxLen], fun _ => rfl, fun ad ha _ => (nomatch ha), fun k y hy => (nomatch hy)⟩ (fun _ _ _ _ _ _ hat => hat.elim) (fun _ _ hat => hat.elim) _ a ?_⟩
   refine FrR.same (ltF_fr r3 hs) ?_
   show _ = Value.slice _ _ _
   rw [upd_at]; exact hv
  ·cases h
def dpS : List Dpo → S → Option (List (Nat × Nat) × S)
 | [], s => some ([], s)
 | d :: ds, s => match dp1 d s with
  | some (e1, s1) => (match dpS ds s1 with | some (e2, s2) => some (e1 ++ e2, s2) | none => none)
  | none => none
theorem dpS_ok : ∀ {ds : List Dpo} {s s' : S} {es : List (Nat × Nat)}, dpS ds s = some (es, s') → (∀ q ∈ es, q.1 = q.2) → Rel N bs w0 s a w → Rel N bs w0 s' a w
 | [], s, s', es, h, _, hR => by injection h with h; injection h with _ h; subst h; exact hR
 | d :: ds, s, s', es, h, he, hR => by
  simp only [dpS] at h
  split at h
  ·rename_i e1 s1 h1
   split at h
   ·rename_i e2 s2 h2
    injection h with h; injection h with h3 h; subst h; subst h3
    exact dpS_ok h2 (fun q hq => he q (List.mem_append_right _ hq)) (dp1_ok h1 (fun q hq => he q (List.mem_append_left _ hq)) hR)
   ·cases h
  ·cases h
def afterD (ds : List Dpo) (cs : List Co) (live objs : List Nat) (s : S) : Option (List (Nat × Nat) × S) := match dpS ds s with
 | some (es, s1) => (match after cs live objs s1 with | some s2 => some (es, s2) | none => none)
 | none => none
variable {Q : Exit → S → Prop}
theorem W_cod {c : Code} (ds : List Dpo) (es : List Nat) (cs : List Co) (live objs : List Nat) {s' : S} (h : afterD ds cs live objs s = some (es.map fun n => (n, n), s')) (hW : W P N bs w0 c s' Q) : W P N bs w0 c s Q := fun a w hR => by
 unfold afterD at h
 split at h
 ·rename_i e1 s1 h1
  split at h
  ·rename_i s2 h2
   injection h with h; injection h with h3 h4; subst h4; subst h3
   exact hW a w (after_ok h2 (dpS_ok h1 (fun q hq => by obtain ⟨n, _, rfl⟩ := List.mem_map.1 hq; rfl) hR))
  ·cases h
 ·cases h
theorem W_weak {c : Code} (h : W P N bs w0 c s (fun ex s1 => ∃ (ds : List Dpo) (es : List Nat) (cs : List Co) (live objs : List Nat) (s' : S), afterD ds cs live objs s1 = some (es.map fun n => (n, n), s') ∧ Q ex s')) : W P N bs w0 c s Q := fun a w hR => by
 refine Go.wp_mono (h a w hR) fun ex a' w' ⟨s1, ⟨ds, es, cs, live, objs, s', h1, hq⟩, hr⟩ => ⟨s', hq, ?_⟩
 unfold afterD at h1
 split at h1
 ·rename_i e1 s2 h2
  split at h1
  ·rename_i s3 h3
   injection h1 with h1; injection h1 with h4 h5; subst h5; subst h4
   exact after_ok h3 (dpS_ok h2 (fun q hq => by obtain ⟨n, _, rfl⟩ := List.mem_map.1 hq; rfl) hr)
  ·cases h1
 ·cases h1
end
end Go.Sx
end
section
namespace Go.Sx
open Go.RowKit Go.Ch
section
variable {P : Program} {T : Tab} {ρ : Pls} {w w' : World}
structure RdV (α : Type) where
 rd : Hp → AV → Option α
 op : Nat → α → AV
 os : Nat → α → List Oj
 pr : α → Prop
 ok : ∀ {ρ : Pls} {w : World} {H : Hp} {x : AV} {a : α} {v : Value}, HpR ρ w H → rd H x = some a → avR ρ x v → pr a ∧ ∃ ps : List Pl, (∀ k, (os k a).length = ps.length ∧ allRo (os k a) = true) ∧ (∀ k (j : Nat) (o : Oj) (p : Pl) (g : Nat), (os k a)[j]? = some o → ps[j]? = some p → objAt p o g → atB ρ H g) ∧ ∀ (k : Nat) (ρ' : Pls), Pat ps k ρ' → F2 (fun o p => objR ρ' w p o) (os k a) ps ∧ avR ρ' (op k a) v
variable {f : FuncId} {az : List AV} {os : Hp}
end
end Go.Sx
end
section
namespace Go.Proofs.YtiojofjllkhbhaaGreat
open Go.RowKit Go.Ch Go.Sx Go.Lib Go.Sort Go.Shelf Go.Proofs
theorem u8_info : (Tryz.prog.info? 5).map (fun i => (i.zero, i.size, i.bytes)) = some (some (.int .u8 0), 1, 1) := by kernel_rfl
set_option maxHeartbeats 1600000 in
set_option maxRecDepth 1000000 in
theorem rev_arr (blk off cap : Nat) (d : Array UInt8) (w : World) (hH : Holds bU w blk off d) (hsz : d.size ≤ 9223372036854775807) :
  Calls Tryz.prog 106 #[.slice (some ⟨blk, off, none⟩) d.size cap] w fun e w' => e = .returned (.tuple #[]) ∧ ∃ n, w' = putRow bU (Sort.ahead w n) blk off d.reverse := by
 have mixed : Tryz.prog.follows .mixedOrders = true := by kernel_rfl
 have t3 : Tryz.prog.underlying 3 = some (.int .i64) := by kernel_rfl
 have t4 : Tryz.prog.underlying 4 = some .bool := by kernel_rfl
 have t22 : Tryz.prog.underlying 32 = some (.slice 5) := by kernel_rfl
 have t5 : Tryz.prog.underlying 5 = some (.int .u8) := by kernel_rfl
 have a3 : ∀ w, (isAgg 3).run Tryz.prog w = .ok false w := fun w => run_isAgg_no t3 rfl
 have a4 : ∀ w, (isAgg 4).run Tryz.prog w = .ok false w := fun w => run_isAgg_no t4 rfl
 have a22 : ∀ w, (isAgg 32).run Tryz.prog w = .ok false w := fun w => run_isAgg_no t22 rfl
 have a23 : ∀ w, (isAgg 5).run Tryz.prog w = .ok false w := fun w => run_isAgg_no t5 rfl
 have z3 : ∀ w, (Go.sizeOf 3).run Tryz.prog w = .ok 1 w := fun w => by kernel_rfl
 have z4 : ∀ w, (Go.sizeOf 4).run Tryz.prog w = .ok 1 w := fun w => by kernel_rfl
 have z22 : ∀ w, (Go.sizeOf 32).run Tryz.prog w = .ok 1 w := fun w => by kernel_rfl
 have z23 : ∀ w, (Go.sizeOf 5).run Tryz.prog w = .ok 1 w := fun w => by kernel_rfl
 go_enter Tryz.func106, Tryz.ntmps106
 go_wp2
 go_loopg [2, 3] d.size (fun k s2 s3 wr => ∃ (i jn : Nat) (jz : Int) (dk : Array UInt8) (n : Nat), s2 = .int .i64 i ∧ s3 = .int .i64 jz ∧ ((i : Int) < jz → jz = jn ∧ jn < d.size) ∧ (¬ (i : Int) < jz → ¬ i < jn) ∧ jn - i ≤ k ∧
  dk.size = d.size ∧ wr = putRow bU (Sort.ahead w n) blk off dk ∧ reverseLoop i jn dk = reverseLoop 0 (d.size - 1) d)
 case atStart => exact ⟨0, d.size - 1, (d.size : Int) - 1, d, 0, rfl, rfl, fun h => ⟨by omega, by omega⟩, fun h => by omega, by omega, rfl, (putRow_self bU w blk off d hH).symm, rfl⟩
 case round =>
  obtain ⟨i, jn, jz, dk, n, rfl, rfl, h1, h2, hk, hds, hwr, heq⟩ := hrel
  by_cases hlt : (i : Int) < jz
  ·obtain ⟨rfl, hjn⟩ := h1 hlt
   have hij : i < jn := by omega
   have hHk : Holds bU wr blk off dk := by rw [hwr]; exact holds_putRow bU _ blk off d dk (holds_ahead bU w n blk off d hH) hds
   obtain ⟨ci, fi⟩ := hHk i (by omega)
   obtain ⟨cj, fj⟩ := hHk jn (by omega)
   simp only [bU] at ci cj
   have A : Aside (wr = putRow bU (Sort.ahead w n) blk off dk) := hwr
   clear hwr hHk hH h1 h2
   go_wp2_with fail
   go_region_o
   go_wp2
   go_roundg (jn - 1 - (i + 1))
   case measure => omega
   case rel =>
    rw [reverseLoop, if_pos hij] at heq
    exact ⟨i + 1, jn - 1, (jn : Int) - 1, swp dk i jn, n + 1, by simp, rfl, fun h => ⟨by omega, by omega⟩, fun h => by omega, Nat.le_refl _, by rw [size_swp]; exact hds,
     swap_world bU (by omega) (by omega) A.out (by first | rfl | simp [bU, getElem!_pos, show jn < dk.size by omega]) (by first | rfl | simp [bU, getElem!_pos, show i < dk.size by omega]), heq⟩
  ·have hnot := h2 hlt
   go_wp2
   go_end0
   refine ⟨rfl, n, ?_⟩
   rw [reverseLoop, if_neg hnot] at heq
   rw [← Lib.reverseLoop_reverse, ← heq]
theorem heap_put (w : World) (n blk : Nat) (d : Array UInt8) (k : Nat) : (putRow bU (Sort.ahead w n) blk 0 d).heap[k]? = if blk = k then (w.heap[k]?).map (onCells (putCells bU 0 d)) else w.heap[k]? := by
 show (w.heap.modify blk (onCells (putCells bU 0 d)))[k]? = _
 rw [Array.getElem?_modify]
theorem rev_c (w : World) (B : Nat) (v : Value) (l : List UInt8) (hv : Own w B 5 v (l.map bU)) (hne : l ≠ []) :
  Calls Tryz.prog 106 #[v] w (Ret fun v' w' => Own w' B 5 v (l.reverse.map bU) ∧ w.grownBy w' v.ownBlock) := by
 obtain ⟨h1, h2⟩ := hv
 rcases h2 with ⟨_, h0⟩ | ⟨g, cap, cur, rfl, hB, hg, hc, hm, hs, ht⟩
 ·rw [List.length_map] at h0
  exact absurd (List.eq_nil_of_length_eq_zero h0) hne
 ·rw [List.length_map] at *
  rw [Nat.mul_one] at ht hs
  have hlen : l.length ≤ cur.size := by omega
  have hH : Holds bU w g 0 l.toArray := by
   intro j hj
   have hj' : j < l.length := by simpa using hj
   have hcj : cur.toList[j]? = some (bU l[j]) := by
    have := congrArg (·[j]?) ht
    simp only [List.getElem?_take, if_pos hj', List.getElem?_map, List.getElem?_eq_getElem hj', Option.map_some] at this
    exact this
   refine ⟨?_, ?_⟩
   ·simp only [World.cell?, hg, Nat.zero_add]
    rw [getElem!_pos l.toArray j hj]
    simpa using hcj
   ·simp only [World.frozen?, hg]
    simp
  have hr := rev_arr g 0 cap l.toArray w hH (by simp; unfold maxLen at hm; omega)
  rw [List.size_toArray] at hr
  refine hr.mono fun e w' ⟨he, n, hw⟩ => ?_
  refine ⟨_, he, ?_, ?_⟩
  ·refine ⟨by simp, .inr ⟨g, cap, putCells bU 0 l.reverse.toArray cur, by simp, hB, ?_, by simpa using hc, hm, ?_, ?_⟩⟩
   ·rw [hw, List.reverse_toArray, heap_put, if_pos rfl, hg]; rfl
   ·simp [putCells, hs]
   ·apply List.ext_getElem?
    intro j
    simp only [List.length_map, List.length_reverse, Nat.mul_one, List.getElem?_take, putCells, Array.getElem?_toList, Array.getElem?_mapIdx, List.getElem?_map]
    by_cases hj : j < l.length
    ·have hjs : j < cur.size := by omega
     have hjr : j < l.reverse.length := by simpa using hj
     rw [if_pos hj, Array.getElem?_eq_getElem hjs, List.getElem?_eq_getElem hjr]
     simp only [Option.map_some, Nat.zero_le, true_and, Nat.zero_add, Nat.sub_zero, List.size_toArray, List.length_reverse, hj, if_true]
     rw [getElem!_pos l.reverse.toArray j (by simpa using hj)]
     simp
    ·rw [if_neg hj, List.getElem?_eq_none (by simpa using hj)]; rfl
  ·refine ⟨by rw [hw]; rfl, by rw [hw]; rfl, by rw [hw]; rfl, by rw [hw]; simp [putRow, mapBlock, Sort.ahead], fun k hk hne => ?_⟩
   rw [hw, List.reverse_toArray, heap_put, if_neg (fun h => hne (by rw [h]; rfl))]
section words
variable {P : Program} {w : World}
theorem run_or8 (t : TypeId) (ex ey : Operand) (x y : UInt8) (w : World) : binRun P .or t ex ey (bU x) (bU y) w = .ok (bU (x ||| y)) w := by
 have e : ∀ x : UInt8, BitVec.ofInt 8 (x.toNat : Int) = x.toBitVec := fun x => by
  rw [BitVec.ofInt_natCast]
  apply BitVec.eq_of_toNat_eq
  simp
 have b : ∀ r : BitVec 8, IntKind.u8.wrap (r.toNat : Int) = (r.toNat : Int) := fun r => by
  have := r.isLt
  rw [IntKind.wrap_u8]; omega
 simp only [binRun, bU, Sem.run_bind, guard_int, Result.andThen_ok]
 simp only [binOp, if_neg (show ¬ (IntKind.u8 ≠ IntKind.u8) by simp), Op.intBits, Sem.run_pure]
 show Result.ok (Value.int .u8 (IntKind.u8.wrap ((BitVec.ofInt 8 (x.toNat : Int) ||| BitVec.ofInt 8 (y.toNat : Int)).toNat : Int))) w = _
 rw [e, e, b]
 rfl
theorem run_gt32 (t : TypeId) (ex ey : Operand) (x y : UInt32) (w : World) : binRun P .gtr t ex ey (w32 x) (w32 y) w = .ok (.bool (decide (y < x))) w := by
 simp only [binRun, w32, Sem.run_bind, guard_int, Result.andThen_ok]
 simp only [binOp, if_neg (show ¬ (IntKind.u32 ≠ IntKind.u32) by simp), Op.intCmp, Sem.run_pure]
 congr 2
 rw [Bool.eq_iff_iff]
 simp [UInt32.lt_iff_toNat_lt]
end words
def grpT : Nat → UInt32 → List UInt8
 | 0, _ => []
 | f + 1, n => if n = 0 then [] else ((n &&& 127).toUInt8 ||| 128) :: grpT f (n >>> 7)
def grp (n : UInt32) : List UInt8 := ((n &&& 127).toUInt8 :: grpT 5 (n >>> 7)).reverse
theorem shr7 (n : UInt32) : (n >>> UInt32.ofNat 7).toNat = n.toNat / 128 := by
 rw [UInt32.toNat_shiftRight, Nat.shiftRight_eq_div_pow]; rfl
theorem shr7' (n : UInt32) : (n >>> 7) = (n >>> UInt32.ofNat 7) := rfl
set_option maxHeartbeats 800000 in
theorem group_c (w : World) (n : UInt32) :
  Calls Tryz.prog 94 #[w32 n] w (Ret fun v' w' => Ext w w' ∧ Own w' w.heap.size 5 v' ((grp n).map bU)) := by
 obtain ⟨i5, hi5, hz5, hs5, hb5⟩ := info_parts u8_info
 go_enter Tryz.func94, Tryz.ntmps94
 go_wp2_with (first
  | ((with_reducible refine g_at (d := 5) ?_); refine wpl_bin rfl rfl (by exact run_and32 _ _ _ n 127 _) ?_; try (conv in (Act.put _ _ _) => simp only [Act.put, List.setIfInBounds_toArray, List.set_cons_succ, List.set_cons_zero]))
  | ((with_reducible refine g_at (d := 6) ?_); refine wpl_conv rfl (by exact conv_wb Tryz.underlying63 Tryz.underlying5 _ _) ?_; try (conv in (Act.put _ _ _) => simp only [Act.put, List.setIfInBounds_toArray, List.set_cons_succ, List.set_cons_zero]))
  | ((with_reducible refine g_at (d := 7) ?_); refine wpl_buildSlice (vs := [bU (n &&& 127).toUInt8]) Tryz.underlying32 hi5 hz5 hs5 rfl (xs := [(.tmp 6)]) rfl rfl rfl (by intro u hu; simp at hu; subst hu; rfl) (by omega) ?_; intro v7 w7 h7 hx7 ha7; try (conv in (Act.put _ _ _) => simp only [Act.put, List.setIfInBounds_toArray, List.set_cons_succ, List.set_cons_zero]))
  | ((with_reducible refine g_at (d := 9) ?_); refine wpl_bin rfl rfl (by exact run_shr32 _ _ _ n .u64 7 (by decide) _) ?_; try (conv in (Act.put _ _ _) => simp only [Act.put, List.setIfInBounds_toArray, List.set_cons_succ, List.set_cons_zero]))
  | ((with_reducible refine g_at (d := 17) ?_); refine wpl_conv rfl (by exact conv_wb Tryz.underlying63 Tryz.underlying5 _ _) ?_; try (conv in (Act.put _ _ _) => simp only [Act.put, List.setIfInBounds_toArray, List.set_cons_succ, List.set_cons_zero])))
 generalize ha : (n &&& 127).toUInt8 = a at *
 generalize hm : n >>> UInt32.ofNat 7 = m0
 have hm0 : m0.toNat < 128 ^ 5 := by rw [← hm, shr7]; have := lt32 n; omega
 have hgrp : grp n = (a :: grpT 5 m0).reverse := by unfold grp; rw [ha, shr7', hm]
 have HG := Lib.hid hgrp
 clear hgrp hm ha
 go_loopw [0, 3] (fun nv o wr => ∃ (k : Nat) (m : UInt32) (xs : List UInt8), nv = w32 m ∧ k ≤ 5 ∧ m.toNat < 128 ^ k ∧ xs.length + k = 6 ∧ Own wr w.heap.size 5 o (xs.map bU) ∧ Ext w wr ∧ Hid (xs ++ grpT k m = a :: grpT 5 m0)) (fun nv _ _ => (RowKit.intOf nv).toNat)
 case atStart => exact ⟨5, m0, [a], rfl, Nat.le_refl _, hm0, rfl, h7, hx7, Lib.hid rfl⟩
 case round =>
  obtain ⟨k, m, xs, rfl, hk, hmk, hxl, ho, hx, hxs⟩ := hrel
  by_cases hz : m = 0
  ·have E11 : Hid (∀ t ex ey w, binRun Tryz.prog .gtr t ex ey (w32 m) (.int .u32 0) w = .ok (.bool false) w) := Lib.hid (fun t ex ey w => (run_gt32 t ex ey m 0 w).trans (by rw [hz]; rfl))
   have HZ := Lib.hid hz
   clear hz
   go_wp2_with (first
    | ((with_reducible refine g_at (d := 11) ?_); refine wpl_bin rfl rfl (by exact E11.out _ _ _ _) ?_; try (conv in (Act.put _ _ _) => simp only [Act.put, List.setIfInBounds_toArray, List.set_cons_succ, List.set_cons_zero]))
    | ((with_reducible refine g_at (d := 22) ?_); refine wpl_call Tryz.func106 (by kernel_rfl) (by kernel_rfl) rfl (rev_c _ _ _ xs ho (by intro h; rw [h] at hxl; simp at hxl; omega)) ?_; rintro v22 w22 ⟨h22, hg22⟩; try (conv in (Act.put _ _ _) => simp only [Act.put, List.setIfInBounds_toArray, List.set_cons_succ, List.set_cons_zero]))
    | ((with_reducible refine g_at (d := 6) ?_); refine wpl_conv rfl (by exact conv_wb Tryz.underlying63 Tryz.underlying5 _ _) ?_; try (conv in (Act.put _ _ _) => simp only [Act.put, List.setIfInBounds_toArray, List.set_cons_succ, List.set_cons_zero]))
    | ((with_reducible refine g_at (d := 17) ?_); refine wpl_conv rfl (by exact conv_wb Tryz.underlying63 Tryz.underlying5 _ _) ?_; try (conv in (Act.put _ _ _) => simp only [Act.put, List.setIfInBounds_toArray, List.set_cons_succ, List.set_cons_zero])))
   go_ret
   have hl : xs = a :: grpT 5 m0 := by
    have h := hxs.out
    rw [HZ.out] at h
    have h0 : grpT k 0 = [] := by cases k <;> rfl
    rwa [h0, List.append_nil] at h
   refine ⟨_, rfl, hx.grown hg22 hx.size (fun b hb => (ho.lt b hb).1), ?_⟩
   rw [HG.out, ← hl]; exact h22
  ·have E11 : Hid (∀ t ex ey w, binRun Tryz.prog .gtr t ex ey (w32 m) (.int .u32 0) w = .ok (.bool true) w) := Lib.hid (fun t ex ey w => (run_gt32 t ex ey m 0 w).trans (by
    rw [decide_eq_true (by
     rw [UInt32.lt_iff_toNat_lt]
     exact Nat.pos_of_ne_zero fun h => hz (UInt32.toNat_inj.1 h))]))
   have HZ := Lib.hid hz
   clear hz
   go_wp2_with (first
    | ((with_reducible refine g_at (d := 11) ?_); refine wpl_bin rfl rfl (by exact E11.out _ _ _ _) ?_; try (conv in (Act.put _ _ _) => simp only [Act.put, List.setIfInBounds_toArray, List.set_cons_succ, List.set_cons_zero]))
    | ((with_reducible refine g_at (d := 16) ?_); refine wpl_bin rfl rfl (by exact run_and32 _ _ _ m 127 _) ?_; try (conv in (Act.put _ _ _) => simp only [Act.put, List.setIfInBounds_toArray, List.set_cons_succ, List.set_cons_zero]))
    | ((with_reducible refine g_at (d := 17) ?_); refine wpl_conv rfl (by exact conv_wb Tryz.underlying63 Tryz.underlying5 _ _) ?_; try (conv in (Act.put _ _ _) => simp only [Act.put, List.setIfInBounds_toArray, List.set_cons_succ, List.set_cons_zero]))
    | ((with_reducible refine g_at (d := 18) ?_); refine wpl_bin rfl rfl (by exact run_or8 _ _ _ _ 128 _) ?_; try (conv in (Act.put _ _ _) => simp only [Act.put, List.setIfInBounds_toArray, List.set_cons_succ, List.set_cons_zero]))
    | ((with_reducible refine g_at (d := 19) ?_); refine wpl_buildSlice (vs := [bU ((m &&& 127).toUInt8 ||| 128)]) Tryz.underlying32 hi5 hz5 hs5 rfl (xs := [(.tmp 18)]) rfl rfl rfl (by intro u hu; simp at hu; subst hu; rfl) (by omega) ?_; intro v19 w19 h19 hx19 ha19; try (conv in (Act.put _ _ _) => simp only [Act.put, List.setIfInBounds_toArray, List.set_cons_succ, List.set_cons_zero]))
    | ((with_reducible refine g_at (d := 20) ?_); refine wpl_append (v := u3) rfl rfl Tryz.underlying32 hi5 hz5 hs5 hb5 rfl (ho.ext hx19) h19.sl (bU_one [_]) (by first | omega | (simp <;> omega)) (by omega) (Nat.le_trans hx.size hx19.size) ?_; intro v20 w20 h20 hg20 ha20 hx20; try (conv in (Act.put _ _ _) => simp only [Act.put, List.setIfInBounds_toArray, List.set_cons_succ, List.set_cons_zero]))
    | ((with_reducible refine g_at (d := 13) ?_); refine wpl_bin rfl rfl (by exact run_shr32 _ _ _ m .u64 7 (by decide) _) ?_; try (conv in (Act.put _ _ _) => simp only [Act.put, List.setIfInBounds_toArray, List.set_cons_succ, List.set_cons_zero]))
    | ((with_reducible refine g_at (d := 6) ?_); refine wpl_conv rfl (by exact conv_wb Tryz.underlying63 Tryz.underlying5 _ _) ?_; try (conv in (Act.put _ _ _) => simp only [Act.put, List.setIfInBounds_toArray, List.set_cons_succ, List.set_cons_zero])))
   go_roundw
   case rel =>
    have hm := HZ.out
    obtain ⟨k, rfl⟩ : ∃ k', k = k' + 1 := ⟨k - 1, by
     cases k with
     | zero => exact absurd (UInt32.toNat_inj.1 (show m.toNat = 0 by simpa using hmk)) hm
     | succ k => rfl⟩
    refine ⟨k, m >>> UInt32.ofNat 7, xs ++ [(m &&& 127).toUInt8 ||| 128], rfl, by omega, ?_, by rw [List.length_append, List.length_singleton]; omega, by rw [List.map_append]; exact h20, (hx.tr hx19).trans hx20, Lib.hid ?_⟩
    ·rw [shr7, Nat.div_lt_iff_lt_mul (by decide)]; rwa [Nat.pow_succ] at hmk
    ·have h := hxs.out
     rw [grpT, if_neg hm, shr7'] at h
     rw [List.append_assoc]; exact h
   case measure =>
    show (((m >>> UInt32.ofNat 7).toNat : Nat) : Int).toNat < ((m.toNat : Nat) : Int).toNat
    rw [shr7, Int.toNat_natCast, Int.toNat_natCast]
    have : m.toNat ≠ 0 := fun h => HZ.out (UInt32.toNat_inj.1 h)
    omega
def group_ct : Ct := fun args H => match args with
 | [.c (.s (.u32 x))] => some ([], .c (.wh H.length), [⟨.row, 5, 1, (grp x).length, .b (grp x)⟩])
 | _ => none
theorem group_h : FnOk Tryz.prog Tr 94 group_ct := by
 refine ⟨fun args H g av objs hF hg ρ w vals hG hp ha => ?_, _, Tryz.func94, by kernel_rfl, by kernel_rfl⟩
 unfold group_ct at hF
 split at hF
 ·rename_i x
  simp only [Option.some.injEq, Prod.mk.injEq] at hF
  obtain ⟨rfl, rfl, rfl⟩ := hF
  obtain ⟨v, vals, rfl, k, ha⟩ := F2.inv ha
  obtain rfl := F2.inv0 ha
  have e : v = w32 x := k
  rw [e]
  exact calls_mono (group_c w x) fun v w' ⟨hx, hv⟩ => ⟨hx, left_row hv (fun _ => csR_b.2 rfl) (by simp)⟩
 ·cases hF
end Go.Proofs.YtiojofjllkhbhaaGreat
end
section
namespace Go.Proofs.YtiojofjllkhbhaaGreat
open Go.RowKit Go.Ch Go.Sx Go.Lib Go.Proofs
set_option maxHeartbeats 1000000 in
set_option maxRecDepth 100000 in
theorem ix_c (w : World) (l : List UInt8) (c : UInt8) :
  Calls Tryz.prog 115 #[.string ⟨l.toArray⟩, .int .u8 ((c.toNat : Nat) : Int)] w (Ret fun v w' => Ext w w' ∧ v = .int .i64 (Lib.indexByte l c)) := by
 go_enter Tryz.func115, Tryz.ntmps115
 go_wp2
 rw [run_callFunc_extern Tryz.func118 (by kernel_rfl) (by kernel_rfl) (by kernel_rfl) (e := Extern.BytealgIndexByte.indexByte) (by kernel_rfl), Lib.run_indexByteString]
 simp only [Result.andThen]
 rw [Oper.upon_value]
 go_wp2
 go_ret
 refine ⟨_, rfl, Below.refl _ _, ?_⟩
 simp
def ix_ct : Ct := ctc rS.rd fun _ l0 => ctc rU8.rd fun _ l1 => ct0 fun _ => ([], kI (Lib.indexByte l0 l1), [])
theorem ix_h : FnOk Tryz.prog Tr 115 ix_ct := by
 refine ⟨fun args H g av objs hF hg ρ w vals hG hp ha => ?_, _, Tryz.func115, by kernel_rfl, by kernel_rfl⟩
 obtain ⟨x0, _, l0, rfl, e0, hF⟩ := ctc_inv hF
 obtain ⟨x1, _, l1, rfl, e1, hF⟩ := ctc_inv hF
 obtain ⟨rfl, rfl, rfl, rfl⟩ := ct0_inv hF
 obtain ⟨v0, vals, rfl, k0, ha⟩ := F2.inv ha
 obtain ⟨v1, vals, rfl, k1, ha⟩ := F2.inv ha
 obtain rfl := F2.inv0 ha
 obtain rfl := aS_ok e0 k0
 obtain rfl := aU8_ok e1 k1
 exact calls_mono (ix_c w l0 l1) fun v w' ⟨hx, hv⟩ => ⟨hx, left_val fun ρ => hv⟩
end Go.Proofs.YtiojofjllkhbhaaGreat
end
section
namespace Go.Proofs.YtiojofjllkhbhaaGreat
open Go.RowKit Go.Ch Go.Sx
def tabL_ta : List (TypeId × Ti) := [(5, ⟨.int .u8, 1, 1, true, some [.int .u8]⟩),
 (9, ⟨.str, 1, 16, true, some [.str]⟩)]
def tab_ta : Tab := fun t => (tabL_ta).lookup t
theorem tabE_ta : (tabL_ta.map fun p => tiOf Tryz.prog p.1) = tabL_ta.map fun p => some p.2 := by kernel_rfl
theorem tabO_ta : TabOk Tryz.prog tab_ta := tab_of tabE_ta
def sIndexByte (n : Nat) (a0 : List UInt8) (a1 : UInt8) : Option (Int) :=
 some (Lib.indexByte a0 a1)
def pprintable (n : Nat) (a0 : UInt8) : Option (Bool) :=
 bif (decide ((97 : UInt8) ≤ a0)) then
  bif (decide (a0 ≤ (122 : UInt8))) then
   some true
  else
   bif (decide ((65 : UInt8) ≤ a0)) then
    bif (decide (a0 ≤ (90 : UInt8))) then
     some true
    else
     bif (decide ((48 : UInt8) ≤ a0)) then
      bif (decide (a0 ≤ (57 : UInt8))) then
       some true
      else
       (sIndexByte n ([32, 39, 40, 41, 43, 44, 45, 46, 47, 58, 61, 63] : List UInt8) a0).bind fun r27 =>
       some (decide ((0 : Int) ≤ r27))
     else
      (sIndexByte n ([32, 39, 40, 41, 43, 44, 45, 46, 47, 58, 61, 63] : List UInt8) a0).bind fun r27 =>
      some (decide ((0 : Int) ≤ r27))
   else
    bif (decide ((48 : UInt8) ≤ a0)) then
     bif (decide (a0 ≤ (57 : UInt8))) then
      some true
     else
      (sIndexByte n ([32, 39, 40, 41, 43, 44, 45, 46, 47, 58, 61, 63] : List UInt8) a0).bind fun r27 =>
      some (decide ((0 : Int) ≤ r27))
    else
     (sIndexByte n ([32, 39, 40, 41, 43, 44, 45, 46, 47, 58, 61, 63] : List UInt8) a0).bind fun r27 =>
     some (decide ((0 : Int) ≤ r27))
 else
  bif (decide ((65 : UInt8) ≤ a0)) then
   bif (decide (a0 ≤ (90 : UInt8))) then
    some true
   else
    bif (decide ((48 : UInt8) ≤ a0)) then
     bif (decide (a0 ≤ (57 : UInt8))) then
      some true
     else
      (sIndexByte n ([32, 39, 40, 41, 43, 44, 45, 46, 47, 58, 61, 63] : List UInt8) a0).bind fun r27 =>
      some (decide ((0 : Int) ≤ r27))
    else
     (sIndexByte n ([32, 39, 40, 41, 43, 44, 45, 46, 47, 58, 61, 63] : List UInt8) a0).bind fun r27 =>
     some (decide ((0 : Int) ≤ r27))
  else
   bif (decide ((48 : UInt8) ≤ a0)) then
    bif (decide (a0 ≤ (57 : UInt8))) then
     some true
    else
     (sIndexByte n ([32, 39, 40, 41, 43, 44, 45, 46, 47, 58, 61, 63] : List UInt8) a0).bind fun r27 =>
     some (decide ((0 : Int) ≤ r27))
   else
    (sIndexByte n ([32, 39, 40, 41, 43, 44, 45, 46, 47, 58, 61, 63] : List UInt8) a0).bind fun r27 =>
    some (decide ((0 : Int) ≤ r27))
def pT1 (n : Nat) (a0 : UInt8) : Option (Bool) :=
 (pprintable n a0).bind fun r4 =>
 some (!r4)
def pT2 (n : Nat) (a0 : UInt8) : Option (Bool) :=
 some (decide ((128 : UInt8) ≤ a0))
def sHasPre0 (n : Nat) (a0 : List UInt8) (a1 : List UInt8) : Option (Bool) :=
 bif (decide (((a1.length : Nat) : Int) ≤ ((a0.length : Nat) : Int))) then
 gd (0 ≤ ((a1.length : Nat) : Int)) <|
 gd (((a1.length : Nat) : Int) ≤ ((a0.length : Nat) : Int)) <|
 some ((a0.take (((a1.length : Nat) : Int).toNat)) == a1)
 else
 some false
def sHasPre (n : Nat) (a0 : List UInt8) (a1 : List UInt8) : Option (Bool) :=
 (sHasPre0 n a0 a1).bind fun r7 =>
 some r7
def sIndexByte_R (r : Int) : S := ⟨[(4, kI r)], [], []⟩
def sIndexByte_ct (n : Nat) (r : Int) : Ct := ctc rS.rd fun _ l0 => ctc rU8.rd fun _ l1 => ct0 fun H => ([sIndexByte n l0 l1 = some r], shA H.length (kI r), shH H.length [])
theorem sIndexByte_ok (n : Nat) (r : Int) : FnOk Tryz.prog Tr 109 (sIndexByte_ct n r) := by
 refine fnok Tryz.func109 ?_
 refine HO_c rS fun l0 _ => HO_c rU8 fun l1 _ => HO_0 tabO_ta (sIndexByte_R r) [.tmp 4] [] 8 Tryz.func109 fun w hG h => ?_
 unfold sIndexByte at h
 have hT := tabO_ta
 refine Vrs hT [] ⟨[(0, kT l0), (1, kU l1)], [], []⟩ ?_
 refine Vgs hT (fT 2 ix_h fN) [] [] [] ⟨[(4, kI (Lib.indexByte l0 l1))], [], []⟩ aN ?_
 refine Vc [] [] (sIndexByte_R (Lib.indexByte l0 l1)) (W_ret ?_)
 exact ⟨.inl rfl, by cases h; rfl⟩
def pprintable_R (r : Bool) : S := ⟨[(2, kB r)], [], []⟩
def pprintable_ct (n : Nat) (r : Bool) : Ct := ctc rU8.rd fun _ l0 => ct0 fun H => ([pprintable n l0 = some r], shA H.length (kB r), shH H.length [])
theorem pprintable_ok (n : Nat) (r : Bool) : FnOk Tryz.prog Tr 98 (pprintable_ct n r) := by
 refine fnok Tryz.func98 ?_
 refine HO_c rU8 fun l0 _ => HO_0 tabO_ta (pprintable_R r) [.tmp 2] [] 30 Tryz.func98 fun w hG h => ?_
 unfold pprintable at h
 have hT := tabO_ta
 refine Vrs hT [] ⟨[(0, kU l0)], [], []⟩ ?_
 refine W_seq ?_
 rcases Bool.eq_false_or_eq_true (decide ((97 : UInt8) ≤ l0)) with g1 | g1
 ·replace h := bif_t h g1
  rcases Bool.eq_false_or_eq_true (decide (l0 ≤ (122 : UInt8))) with g2 | g2
  ·replace h := bif_t h g2
   refine Vg hT fN [(2, true), (6, true)] [] [] ⟨[(2, kB true)], [], []⟩ (aP g1 (aP g2 aN)) ?_
   refine Vc [] [] (pprintable_R true) (W_ret ?_)
   exact ⟨.inl rfl, by cases h; rfl⟩
  ·replace h := bif_f h g2
   rcases Bool.eq_false_or_eq_true (decide ((65 : UInt8) ≤ l0)) with g3 | g3
   ·replace h := bif_t h g3
    rcases Bool.eq_false_or_eq_true (decide (l0 ≤ (90 : UInt8))) with g4 | g4
    ·replace h := bif_t h g4
     refine Vg hT fN [(2, true), (6, false), (9, true), (14, true)] [] [] ⟨[(2, kB true)], [], []⟩ (aP g1 (aP g2 (aP g3 (aP g4 aN)))) ?_
     refine Vc [] [] (pprintable_R true) (W_ret ?_)
     exact ⟨.inl rfl, by cases h; rfl⟩
    ·replace h := bif_f h g4
     rcases Bool.eq_false_or_eq_true (decide ((48 : UInt8) ≤ l0)) with g5 | g5
     ·replace h := bif_t h g5
      rcases Bool.eq_false_or_eq_true (decide (l0 ≤ (57 : UInt8))) with g6 | g6
      ·replace h := bif_t h g6
       refine Vg hT fN [(2, true), (6, false), (9, true), (14, false), (17, true), (22, true)] [] [] ⟨[(2, kB true)], [], []⟩ (aP g1 (aP g2 (aP g3 (aP g4 (aP g5 (aP g6 aN)))))) ?_
       refine Vc [] [] (pprintable_R true) (W_ret ?_)
       exact ⟨.inl rfl, by cases h; rfl⟩
      ·replace h := bif_f h g6
       obtain ⟨r27, g7, h⟩ := bind_some' h
       refine Vg hT (fT 24 (sIndexByte_ok n r27) fN) [(2, true), (6, false), (9, true), (14, false), (17, true), (22, false)] [] [] ⟨[(2, kB (decide ((0 : Int) ≤ r27)))], [], []⟩ (aP g1 (aP g2 (aP g3 (aP g4 (aP g5 (aP g6 (aP g7 aN))))))) ?_
       refine Vc [] [] (pprintable_R (decide ((0 : Int) ≤ r27))) (W_ret ?_)
       exact ⟨.inl rfl, by cases h; rfl⟩
     ·replace h := bif_f h g5
      obtain ⟨r27, g8, h⟩ := bind_some' h
      refine Vg hT (fT 24 (sIndexByte_ok n r27) fN) [(2, true), (6, false), (9, true), (14, false), (17, false)] [] [] ⟨[(2, kB (decide ((0 : Int) ≤ r27)))], [], []⟩ (aP g1 (aP g2 (aP g3 (aP g4 (aP g5 (aP g8 aN)))))) ?_
      refine Vc [] [] (pprintable_R (decide ((0 : Int) ≤ r27))) (W_ret ?_)
      exact ⟨.inl rfl, by cases h; rfl⟩
   ·replace h := bif_f h g3
    rcases Bool.eq_false_or_eq_true (decide ((48 : UInt8) ≤ l0)) with g9 | g9
    ·replace h := bif_t h g9
     rcases Bool.eq_false_or_eq_true (decide (l0 ≤ (57 : UInt8))) with g10 | g10
     ·replace h := bif_t h g10
      refine Vg hT fN [(2, true), (6, false), (9, false), (17, true), (22, true)] [] [] ⟨[(2, kB true)], [], []⟩ (aP g1 (aP g2 (aP g3 (aP g9 (aP g10 aN))))) ?_
      refine Vc [] [] (pprintable_R true) (W_ret ?_)
      exact ⟨.inl rfl, by cases h; rfl⟩
     ·replace h := bif_f h g10
      obtain ⟨r27, g11, h⟩ := bind_some' h
      refine Vg hT (fT 24 (sIndexByte_ok n r27) fN) [(2, true), (6, false), (9, false), (17, true), (22, false)] [] [] ⟨[(2, kB (decide ((0 : Int) ≤ r27)))], [], []⟩ (aP g1 (aP g2 (aP g3 (aP g9 (aP g10 (aP g11 aN)))))) ?_
      refine Vc [] [] (pprintable_R (decide ((0 : Int) ≤ r27))) (W_ret ?_)
      exact ⟨.inl rfl, by cases h; rfl⟩
    ·replace h := bif_f h g9
     obtain ⟨r27, g12, h⟩ := bind_some' h
     refine Vg hT (fT 24 (sIndexByte_ok n r27) fN) [(2, true), (6, false), (9, false), (17, false)] [] [] ⟨[(2, kB (decide ((0 : Int) ≤ r27)))], [], []⟩ (aP g1 (aP g2 (aP g3 (aP g9 (aP g12 aN))))) ?_
     refine Vc [] [] (pprintable_R (decide ((0 : Int) ≤ r27))) (W_ret ?_)
     exact ⟨.inl rfl, by cases h; rfl⟩
 ·replace h := bif_f h g1
  rcases Bool.eq_false_or_eq_true (decide ((65 : UInt8) ≤ l0)) with g13 | g13
  ·replace h := bif_t h g13
   rcases Bool.eq_false_or_eq_true (decide (l0 ≤ (90 : UInt8))) with g14 | g14
   ·replace h := bif_t h g14
    refine Vg hT fN [(2, false), (9, true), (14, true)] [] [] ⟨[(2, kB true)], [], []⟩ (aP g1 (aP g13 (aP g14 aN))) ?_
    refine Vc [] [] (pprintable_R true) (W_ret ?_)
    exact ⟨.inl rfl, by cases h; rfl⟩
   ·replace h := bif_f h g14
    rcases Bool.eq_false_or_eq_true (decide ((48 : UInt8) ≤ l0)) with g15 | g15
    ·replace h := bif_t h g15
     rcases Bool.eq_false_or_eq_true (decide (l0 ≤ (57 : UInt8))) with g16 | g16
     ·replace h := bif_t h g16
      refine Vg hT fN [(2, false), (9, true), (14, false), (17, true), (22, true)] [] [] ⟨[(2, kB true)], [], []⟩ (aP g1 (aP g13 (aP g14 (aP g15 (aP g16 aN))))) ?_
      refine Vc [] [] (pprintable_R true) (W_ret ?_)
      exact ⟨.inl rfl, by cases h; rfl⟩
     ·replace h := bif_f h g16
      obtain ⟨r27, g17, h⟩ := bind_some' h
      refine Vg hT (fT 24 (sIndexByte_ok n r27) fN) [(2, false), (9, true), (14, false), (17, true), (22, false)] [] [] ⟨[(2, kB (decide ((0 : Int) ≤ r27)))], [], []⟩ (aP g1 (aP g13 (aP g14 (aP g15 (aP g16 (aP g17 aN)))))) ?_
      refine Vc [] [] (pprintable_R (decide ((0 : Int) ≤ r27))) (W_ret ?_)
      exact ⟨.inl rfl, by cases h; rfl⟩
    ·replace h := bif_f h g15
     obtain ⟨r27, g18, h⟩ := bind_some' h
     refine Vg hT (fT 24 (sIndexByte_ok n r27) fN) [(2, false), (9, true), (14, false), (17, false)] [] [] ⟨[(2, kB (decide ((0 : Int) ≤ r27)))], [], []⟩ (aP g1 (aP g13 (aP g14 (aP g15 (aP g18 aN))))) ?_
     refine Vc [] [] (pprintable_R (decide ((0 : Int) ≤ r27))) (W_ret ?_)
     exact ⟨.inl rfl, by cases h; rfl⟩
  ·replace h := bif_f h g13
   rcases Bool.eq_false_or_eq_true (decide ((48 : UInt8) ≤ l0)) with g19 | g19
   ·replace h := bif_t h g19
    rcases Bool.eq_false_or_eq_true (decide (l0 ≤ (57 : UInt8))) with g20 | g20
    ·replace h := bif_t h g20
     refine Vg hT fN [(2, false), (9, false), (17, true), (22, true)] [] [] ⟨[(2, kB true)], [], []⟩ (aP g1 (aP g13 (aP g19 (aP g20 aN)))) ?_
     refine Vc [] [] (pprintable_R true) (W_ret ?_)
     exact ⟨.inl rfl, by cases h; rfl⟩
    ·replace h := bif_f h g20
     obtain ⟨r27, g21, h⟩ := bind_some' h
     refine Vg hT (fT 24 (sIndexByte_ok n r27) fN) [(2, false), (9, false), (17, true), (22, false)] [] [] ⟨[(2, kB (decide ((0 : Int) ≤ r27)))], [], []⟩ (aP g1 (aP g13 (aP g19 (aP g20 (aP g21 aN))))) ?_
     refine Vc [] [] (pprintable_R (decide ((0 : Int) ≤ r27))) (W_ret ?_)
     exact ⟨.inl rfl, by cases h; rfl⟩
   ·replace h := bif_f h g19
    obtain ⟨r27, g22, h⟩ := bind_some' h
    refine Vg hT (fT 24 (sIndexByte_ok n r27) fN) [(2, false), (9, false), (17, false)] [] [] ⟨[(2, kB (decide ((0 : Int) ≤ r27)))], [], []⟩ (aP g1 (aP g13 (aP g19 (aP g22 aN)))) ?_
    refine Vc [] [] (pprintable_R (decide ((0 : Int) ≤ r27))) (W_ret ?_)
    exact ⟨.inl rfl, by cases h; rfl⟩
def pT1_R (r : Bool) : S := ⟨[(2, kB r)], [], []⟩
def pT1_ct (n : Nat) (r : Bool) : Ct := ctc rU8.rd fun _ l0 => ct0 fun H => ([pT1 n l0 = some r], shA H.length (kB r), shH H.length [])
theorem pT1_ok (n : Nat) (r : Bool) : FnOk Tryz.prog Tr 97 (pT1_ct n r) := by
 refine fnok Tryz.func97 ?_
 refine HO_c rU8 fun l0 _ => HO_0 tabO_ta (pT1_R r) [.tmp 2] [] 6 Tryz.func97 fun w hG h => ?_
 unfold pT1 at h
 have hT := tabO_ta
 refine Vrs hT [] ⟨[(0, kU l0)], [], []⟩ ?_
 obtain ⟨r4, g1, h⟩ := bind_some' h
 refine Vgs hT (fT 1 (pprintable_ok n r4) fN) [] [] [] ⟨[(2, kB (!r4))], [], []⟩ (aP g1 aN) ?_
 refine Vc [] [] (pT1_R (!r4)) (W_ret ?_)
 exact ⟨.inl rfl, by cases h; rfl⟩
def pT2_R (r : Bool) : S := ⟨[(2, kB r)], [], []⟩
def pT2_ct (n : Nat) (r : Bool) : Ct := ctc rU8.rd fun _ l0 => ct0 fun H => ([pT2 n l0 = some r], shA H.length (kB r), shH H.length [])
theorem pT2_ok (n : Nat) (r : Bool) : FnOk Tryz.prog Tr 99 (pT2_ct n r) := by
 refine fnok Tryz.func99 ?_
 refine HO_c rU8 fun l0 _ => HO_0 tabO_ta (pT2_R r) [.tmp 2] [] 5 Tryz.func99 fun w hG h => ?_
 unfold pT2 at h
 have hT := tabO_ta
 refine Vrs hT [] ⟨[(0, kU l0)], [], []⟩ ?_
 refine Vrs hT [] ⟨[(2, kB (decide ((128 : UInt8) ≤ l0)))], [], []⟩ ?_
 refine Vc [] [] (pT2_R (decide ((128 : UInt8) ≤ l0))) (W_ret ?_)
 exact ⟨.inl rfl, by cases h; rfl⟩
def sHasPre0_R (r : Bool) : S := ⟨[(4, kB r)], [], []⟩
def sHasPre0_ct (n : Nat) (r : Bool) : Ct := ctc rS.rd fun _ l0 => ctc rS.rd fun _ l1 => ct0 fun H => ([sHasPre0 n l0 l1 = some r], shA H.length (kB r), shH H.length [])
theorem sHasPre0_ok (n : Nat) (r : Bool) : FnOk Tryz.prog Tr 114 (sHasPre0_ct n r) := by
 refine fnok Tryz.func114 ?_
 refine HO_c rS fun l0 _ => HO_c rS fun l1 _ => HO_0 tabO_ta (sHasPre0_R r) [.tmp 4] [] 18 Tryz.func114 fun w hG h => ?_
 unfold sHasPre0 at h
 have hT := tabO_ta
 refine Vrs hT [] ⟨[(0, kT l0), (1, kT l1)], [], []⟩ ?_
 refine W_seq ?_
 rcases Bool.eq_false_or_eq_true (decide (((l1.length : Nat) : Int) ≤ ((l0.length : Nat) : Int))) with g1 | g1
 ·replace h := bif_t h g1
  obtain ⟨g2, g3, h⟩ := gd2 h
  refine Vg hT fN [(5, true)] [] [] ⟨[(4, kB ((l0.take (((l1.length : Nat) : Int).toNat)) == l1))], [], []⟩ (aP g1 (aP g2 (aP g3 aN))) ?_
  refine Vc [] [] (sHasPre0_R ((l0.take (((l1.length : Nat) : Int).toNat)) == l1)) (W_ret ?_)
  exact ⟨.inl rfl, by cases h; rfl⟩
 ·replace h := bif_f h g1
  refine Vg hT fN [(5, false)] [] [] ⟨[(4, kB false)], [], []⟩ (aP g1 aN) ?_
  refine Vc [] [] (sHasPre0_R false) (W_ret ?_)
  exact ⟨.inl rfl, by cases h; rfl⟩
def sHasPre_R (r : Bool) : S := ⟨[(4, kB r)], [], []⟩
def sHasPre_ct (n : Nat) (r : Bool) : Ct := ctc rS.rd fun _ l0 => ctc rS.rd fun _ l1 => ct0 fun H => ([sHasPre n l0 l1 = some r], shA H.length (kB r), shH H.length [])
theorem sHasPre_ok (n : Nat) (r : Bool) : FnOk Tryz.prog Tr 107 (sHasPre_ct n r) := by
 refine fnok Tryz.func107 ?_
 refine HO_c rS fun l0 _ => HO_c rS fun l1 _ => HO_0 tabO_ta (sHasPre_R r) [.tmp 4] [] 8 Tryz.func107 fun w hG h => ?_
 unfold sHasPre at h
 have hT := tabO_ta
 refine Vrs hT [] ⟨[(0, kT l0), (1, kT l1)], [], []⟩ ?_
 obtain ⟨r7, g1, h⟩ := bind_some' h
 refine Vgs hT (fT 2 (sHasPre0_ok n r7) fN) [] [] [] ⟨[(4, kB r7)], [], []⟩ (aP g1 aN) ?_
 refine Vc [] [] (sHasPre_R r7) (W_ret ?_)
 exact ⟨.inl rfl, by cases h; rfl⟩
end Go.Proofs.YtiojofjllkhbhaaGreat
end
section
namespace Go.Proofs.YtiojofjllkhbhaaGreat
open Go.RowKit Go.Ch Go.Sx Go.Lib Go.Proofs
def prB (x : UInt8) : Bool := decide (97 ≤ x) && decide (x ≤ 122) || decide (65 ≤ x) && decide (x ≤ 90) || decide (48 ≤ x) && decide (x ≤ 57) || [32, 39, 40, 41, 43, 44, 45, 46, 47, 58, 61, 63].contains x
def prtN (x : UInt8) : Bool := !prB x
def hiB (x : UInt8) : Bool := decide (128 ≤ x)
theorem pT1_all : ∀ i : Fin 256, pT1 0 (UInt8.ofNat i.1) = some (prtN (UInt8.ofNat i.1)) := by decide +kernel
theorem pT1_is (x : UInt8) : pT1 0 x = some (prtN x) := by
 have := pT1_all ⟨x.toNat, x.toNat_lt⟩
 simpa using this
def Tells (g : Nat) (p : UInt8 → Bool) : Prop := ∀ (x : UInt8) (w : World), Calls Tryz.prog g #[bU x] w (Ret fun v w' => Ext w w' ∧ v = .bool (p x))
theorem tells1 : Tells 97 prtN := fun x w =>
 calls_mono ((pT1_ok 0 (prtN x)).ct [.c (.s (.u8 x))] [] _ _ _ rfl (allP_cons.2 ⟨pT1_is x, allP_nil⟩) (plL []) w [bU x] True.intro (fun i o h => by simp at h) (F2.cons rfl F2.nil)) fun v w' ⟨hx, _, hL⟩ => ⟨hx, hL.val⟩
theorem tells2 : Tells 99 hiB := fun x w =>
 calls_mono ((pT2_ok 0 (hiB x)).ct [.c (.s (.u8 x))] [] _ _ _ rfl (allP_cons.2 ⟨rfl, allP_nil⟩) (plL []) w [bU x] True.intro (fun i o h => by simp at h) (F2.cons rfl F2.nil)) fun v w' ⟨hx, _, hL⟩ => ⟨hx, hL.val⟩
theorem enters1 : ∀ args w, (callFunc 97 args).run Tryz.prog w = .ok (.enter 97 args) w := enters_of Tryz.func97 (by kernel_rfl) rfl
theorem enters2 : ∀ args w, (callFunc 99 args).run Tryz.prog w = .ok (.enter 99 args) w := enters_of Tryz.func99 (by kernel_rfl) rfl
set_option maxHeartbeats 2000000 in
theorem idxf_c (g : Nat) (p : UInt8 → Bool) (eg : ∀ args w, (callFunc g args).run Tryz.prog w = .ok (.enter g args) w) (hp : Tells g p) (w : World) (ad : Addr) (c n : Nat) (zs : List UInt8) (hz : n ≤ zs.length) (hbig : n ≤ 9223372036854775807)
  (hc : ∀ j, j < zs.length → w.cell? (ad.add j) = some (bU zs[j]!)) :
  Calls Tryz.prog 108 #[.slice (some ad) n c, .func (.func g) #[] #[]] w fun e w' => ∃ r : Int, e = .returned (.int .i64 r) ∧ Ext w w' ∧ decide (0 ≤ r) = (zs.take n).any p := by
 go_enter Tryz.func108, Tryz.ntmps108
 go_wp2
 go_loopg [5, 8] n (fun gg _ s8 wr => ∃ kk : Nat, kk ≤ n ∧ n - kk ≤ gg ∧ s8 = .int .i64 kk ∧ Ext w wr ∧ Aside (∀ j, j < kk → p zs[j]! = false))
 case atStart => exact ⟨0, Nat.zero_le _, by omega, rfl, Below.refl _ _, fun j hj => absurd hj (Nat.not_lt_zero _)⟩
 case round =>
  obtain ⟨kk, hkk, hg, rfl, hx, A⟩ := hrel
  by_cases hlt : kk < n
  ·have hltz : (kk : Int) < (n : Int) := by omega
   have hcell : wr.cell? (ad.add kk) = some (bU zs[kk]!) := by
    have h1 := hc kk (by omega)
    have h2 := World.block_lt_of_cell? _ _ h1
    rw [World.cell?_of_block (hx.block _ h2)]; exact h1
   clear hc
   generalize hy : zs[kk]! = y at hcell
   have B : Aside (zs[kk]! = y) := hy
   clear hy
   have hcall : Calls Tryz.prog g #[bU y] wr (Ret fun v w' => Ext wr w' ∧ v = .bool (p y)) := hp y wr
   unfold bU at hcell hcall
   cases hq : p y with
   | true =>
    rw [hq] at hcall
    go_wp2_with (go_at_fn g; refine hcall.mono ?_; rintro e w' ⟨v, rfl, hx2, rfl⟩)
    go_ret
    refine ⟨(kk : Int), rfl, hx.tr hx2, ?_⟩
    rw [decide_eq_true (by omega)]
    symm
    rw [List.any_eq_true]
    refine ⟨y, ?_, hq⟩
    rw [← B.out, List.mem_take_iff_getElem]
    exact ⟨kk, by omega, by rw [getElem!_pos zs kk (by omega)]⟩
   | false =>
    rw [hq] at hcall
    go_wp2_with (go_at_fn g; refine hcall.mono ?_; rintro e w' ⟨v, rfl, hx2, rfl⟩)
    go_roundg (n - (kk + 1))
    case measure => omega
    case rel =>
     refine ⟨kk + 1, by omega, by omega, by go_num, hx.tr hx2, (show Aside _ from fun j hj => ?_)⟩
     by_cases e : j = kk
     ·subst e
      rw [B.out]; exact hq
     ·exact A.out j (by omega)
  ·have hltz : ¬ (kk : Int) < (n : Int) := by omega
   have he : kk = n := by omega
   subst he
   go_wp2
   go_ret
   refine ⟨-1, rfl, hx, ?_⟩
   rw [decide_eq_false (by omega)]
   symm
   rw [Bool.eq_false_iff]
   intro h
   rw [List.any_eq_true] at h
   obtain ⟨x, hx, hpx⟩ := h
   obtain ⟨j, hj, rfl⟩ := List.mem_take_iff_getElem.1 hx
   have := A.out j (by omega)
   rw [getElem!_pos zs j (by omega)] at this
   rw [this] at hpx
   cases hpx
set_option maxHeartbeats 2000000 in
theorem idxf_nil (g : Nat) (w : World) (c : Nat) :
  Calls Tryz.prog 108 #[.slice none 0 c, .func (.func g) #[] #[]] w fun e w' => ∃ r : Int, e = .returned (.int .i64 r) ∧ Ext w w' ∧ decide (0 ≤ r) = false := by
 go_enter Tryz.func108, Tryz.ntmps108
 go_wp2
 go_loopg [5, 8] 0 (fun gg _ s8 wr => s8 = .int .i64 0 ∧ Ext w wr)
 case atStart => exact ⟨rfl, Below.refl _ _⟩
 case round =>
  obtain ⟨rfl, hx⟩ := hrel
  go_wp2
  go_ret
  exact ⟨-1, rfl, hx, by decide⟩
set_option maxHeartbeats 2000000 in
theorem idxf_zero (g : Nat) (w : World) (ad : Addr) (c : Nat) :
  Calls Tryz.prog 108 #[.slice (some ad) 0 c, .func (.func g) #[] #[]] w fun e w' => ∃ r : Int, e = .returned (.int .i64 r) ∧ Ext w w' ∧ decide (0 ≤ r) = false := by
 go_enter Tryz.func108, Tryz.ntmps108
 go_wp2
 go_loopg [5, 8] 0 (fun gg _ s8 wr => s8 = .int .i64 0 ∧ Ext w wr)
 case atStart => exact ⟨rfl, Below.refl _ _⟩
 case round =>
  obtain ⟨rfl, hx⟩ := hrel
  go_wp2
  go_ret
  exact ⟨-1, rfl, hx, by decide⟩
set_option maxHeartbeats 2000000 in
theorem cont_c (g : Nat) (p : UInt8 → Bool) (eg : ∀ args w, (callFunc g args).run Tryz.prog w = .ok (.enter g args) w) (hp : Tells g p) (w : World) (B : Nat) (v : Value) (l : List UInt8) (hv : Sl w B v (l.map bU)) :
  Calls Tryz.prog 96 #[v, .func (.func g) #[] #[]] w (Ret fun v w' => Ext w w' ∧ v = .bool (l.any p)) := by
 have ei : ∀ args w, (callFunc 108 args).run Tryz.prog w = .ok (.enter 108 args) w := enters_of Tryz.func108 (by kernel_rfl) rfl
 have key : Calls Tryz.prog 108 #[v, .func (.func g) #[] #[]] w fun e w' => ∃ r : Int, e = .returned (.int .i64 r) ∧ Ext w w' ∧ decide (0 ≤ r) = l.any p := by
  obtain ⟨hB, A, c, rfl, h1, h2, h3, hc⟩ := hv
  rw [List.length_map] at h1 ⊢
  cases A with
  | none =>
   have hc0 := h3 rfl
   have hl : l = [] := List.eq_nil_of_length_eq_zero (by omega)
   subst hl; subst hc0
   exact idxf_nil g w 0
  | some ad =>
   have hsub : ∀ j, j < l.length → w.cell? (ad.add j) = some (bU l[j]!) := fun j hj => (hc ad rfl j (bU l[j]!) (by rw [List.getElem?_map, List.getElem?_eq_getElem hj, getElem!_pos l j hj]; rfl)).2
   rcases Nat.eq_zero_or_pos l.length with h0 | h0
   ·obtain rfl := List.eq_nil_of_length_eq_zero h0
    exact idxf_zero g w ad c
   ·exact (idxf_c g p eg hp w ad c l.length l (Nat.le_refl _) (by unfold maxLen at h2; omega) hsub).mono fun e w' ⟨r, h1, h2, h3⟩ => ⟨r, h1, h2, by rw [h3, List.take_length]⟩
 obtain ⟨V, hV⟩ : ∃ V, V = v := ⟨_, rfl⟩
 rw [← hV] at key ⊢
 clear hv hV
 generalize l.any p = R at key
 go_enter Tryz.func96, Tryz.ntmps96
 go_wp2_with (go_at_fn 108; refine key.mono ?_; rintro e w' ⟨r, rfl, hx, hr⟩)
 go_ret
 refine ⟨_, rfl, hx, ?_⟩
 rw [← hr]; rfl
def aFn : AV → Option (UInt8 → Bool)
 | .c (.s (.v (.func (.func g) a b))) => (match a.toList, b.toList, Nat.beq g 97, Nat.beq g 99 with
  | [], [], true, _ => some prtN
  | [], [], _, true => some hiB
  | _, _, _, _ => none)
 | _ => none
theorem aFn_ok {ρ : Pls} {x : AV} {p : UInt8 → Bool} (h : aFn x = some p) {v : Value} (hv : avR ρ x v) : ∃ g, v = .func (.func g) #[] #[] ∧ Tells g p ∧ ∀ args w, (callFunc g args).run Tryz.prog w = .ok (.enter g args) w := by
 unfold aFn at h
 split at h
 ·rename_i g a b
  have hv' : v = .func (.func g) a b := hv
  split at h
  ·rename_i h1 h2 h3
   injection h with h; subst h
   obtain rfl := Nat.eq_of_beq_eq_true h3
   exact ⟨_, by rw [hv', Array.ext' (xs := a) (ys := #[]) h1, Array.ext' (xs := b) (ys := #[]) h2], tells1, enters1⟩
  ·rename_i h1 h2 h3 _
   injection h with h; subst h
   obtain rfl := Nat.eq_of_beq_eq_true h3
   exact ⟨_, by rw [hv', Array.ext' (xs := a) (ys := #[]) h1, Array.ext' (xs := b) (ys := #[]) h2], tells2, enters2⟩
  ·cases h
 ·cases h
def cf_ct : Ct := ctc aB fun _ l => ctc (fun _ => aFn) fun _ p => ct0 fun _ => ([], kB (l.any p), [])
theorem cf_h : FnOk Tryz.prog Tr 96 cf_ct := by
 refine ⟨fun args H g av objs hF hg ρ w vals hG hp ha => ?_, _, Tryz.func96, by kernel_rfl, by kernel_rfl⟩
 obtain ⟨x0, _, l0, rfl, e0, hF⟩ := ctc_inv hF
 obtain ⟨x1, _, l1, rfl, e1, hF⟩ := ctc_inv hF
 obtain ⟨rfl, rfl, rfl, rfl⟩ := ct0_inv hF
 obtain ⟨v0, vals, rfl, k0, ha⟩ := F2.inv ha
 obtain ⟨v1, vals, rfl, k1, ha⟩ := F2.inv ha
 obtain rfl := F2.inv0 ha
 obtain ⟨q, hI⟩ := aB_ok hp e0 k0 5
 have hs := hI.sl (fun _ _ h => csR_b.1 h) (by simp)
 obtain ⟨g', rfl, h1, h2⟩ := aFn_ok e1 k1
 exact calls_mono (cont_c g' l1 h2 h1 w _ v0 l0 hs) fun v w' ⟨hx, hv⟩ => ⟨hx, left_val fun ρ => hv⟩
def preF (a : List UInt8) : Bool := a.take 3 == [239, 191, 189]
theorem sHasPre_is (a : List UInt8) : sHasPre 0 a [239, 191, 189] = some (preF a) := by
 unfold sHasPre sHasPre0 preF
 by_cases h : 3 ≤ a.length
 ·have h3 : (([239, 191, 189] : List UInt8).length : Int) = 3 := rfl
  rw [ite_t (decide_eq_true (by rw [h3]; omega)), gd_pos (by rw [h3]; omega), gd_pos (by rw [h3]; omega)]; rfl
 ·have h3 : (([239, 191, 189] : List UInt8).length : Int) = 3 := rfl
  rw [ite_f (decide_eq_false (by rw [h3]; omega)), Option.bind_some]
  congr 1
  symm
  rw [beq_eq_false_iff_ne]
  intro e
  have := congrArg List.length e
  rw [List.length_take] at this
  simp at this; omega
theorem hp_c (w : World) (a : ByteArray) : Calls Tryz.prog 107 #[.string a, .string ⟨#[239, 191, 189]⟩] w (Ret fun v w' => Ext w w' ∧ v = .bool (preF a.data.toList)) :=
 calls_mono ((sHasPre_ok 0 (preF a.data.toList)).ct [.c (.s (.str a.data.toList)), .c (.s (.str [239, 191, 189]))] [] _ _ _ rfl (allP_cons.2 ⟨sHasPre_is _, allP_nil⟩) (plL []) w [.string a, .string ⟨#[239, 191, 189]⟩] True.intro (fun i o h => by simp at h) (F2.cons rfl (F2.cons rfl F2.nil))) fun v w' ⟨hx, _, hL⟩ => ⟨hx, hL.val⟩
def ptsFrom (s : ByteArray) : Nat → Nat → Bool
 | 0, _ => true
 | f + 1, pos => if pos < s.size then (if (Utf8.decode s pos).1 = 65533 ∧ preF (s.extract pos s.size).data.toList = false then false else ptsFrom s f (pos + (Utf8.decode s pos).2)) else true
def ptsF (l : List UInt8) : Bool := ptsFrom ⟨l.toArray⟩ (l.length + 1) 0
set_option maxHeartbeats 2000000 in
set_option maxRecDepth 1000000 in
theorem pts_c (w : World) (s : ByteArray) : Calls Tryz.prog 95 #[.string s] w fun e w' => ∃ r, e = .returned (.bool r) ∧ Ext w w' ∧ r = ptsFrom s (s.size + 1) 0 := by
 obtain ⟨Z, hZ⟩ : ∃ Z, ptsFrom s (s.size + 1) 0 = Z := ⟨_, rfl⟩
 rw [hZ]
 go_enter Tryz.func95, Tryz.ntmps95
 go_wp2
 go_loopg [] (s.size + 1) (fun gf wx => ∃ pos : Nat, wx.heap[w.heap.size]? = some (.stringIter s pos) ∧ Below w.heap.size w wx ∧ ptsFrom s gf pos = Z ∧ s.size < pos + gf)
 case atStart => exact ⟨0, World.iter_heap w s 0, (Below.refl _ w).alloc (Nat.le_refl _) _, hZ, by omega⟩
 case round =>
  clear hZ
  obtain ⟨pos, hit, hbw, hleft, hfu⟩ := hrel
  by_cases hps : pos < s.size
  ·obtain ⟨g', rfl⟩ : ∃ g', gk = g' + 1 := ⟨gk - 1, by omega⟩
   have hnx : ∀ ty, (Instr.next (.pointer (some ⟨w.heap.size, 0, none⟩)) true ty).run Tryz.prog wr = _ := fun ty => Lib.run_next_any_at wr w.heap.size s pos ty hit hps
   have hwd := Lib.width_pos s pos
   obtain ⟨R, hR⟩ : ∃ R, (Utf8.decode s pos).1 = R := ⟨_, rfl⟩
   obtain ⟨K, hK⟩ : ∃ K, (Utf8.decode s pos).2 = K := ⟨_, rfl⟩
   rw [ptsFrom, if_pos hps, hR, hK] at hleft
   rw [hR, hK] at hnx
   rw [hK] at hwd
   have hit2 := Lib.iterAt_heap wr w.heap.size s pos (pos + K) hit
   have hbw2 := Lib.below_iterAt hbw (k := w.heap.size) (Nat.le_refl _) s (pos + K)
   obtain ⟨W, hWd⟩ : ∃ W, wr.iterAt w.heap.size s (pos + K) = W := ⟨_, rfl⟩
   rw [hWd] at hnx hit2 hbw2
   by_cases h65 : R = 65533
   ·have h65i : ((R : Nat) : Int) = 65533 := by omega
    rw [h65i] at hnx
    have cS := hp_c W (s.extract pos s.size)
    obtain ⟨q, hq⟩ : ∃ q, preF (s.extract pos s.size).data.toList = q := ⟨_, rfl⟩
    rw [hq] at cS hleft
    clear hR hK hWd hit hbw
    have hx : Ext w W := hbw2
    cases q with
    | false =>
     rw [if_pos ⟨h65, rfl⟩] at hleft
     have HL := Lib.hid hleft
     clear hleft
     go_wp2_with (go_at_fn 107; fail)
     with_reducible refine Calls.mono cS ?_
     intro e w' hh
     obtain ⟨v, he, hx2, hv⟩ := hh
     subst he
     subst hv
     go_wp2
     go_ret
     exact ⟨false, rfl, hx.tr hx2, HL.out⟩
    | true =>
     rw [if_neg (by simp)] at hleft
     have HL := Lib.hid hleft
     clear hleft
     go_wp2_with (go_at_fn 107; fail)
     with_reducible refine Calls.mono cS ?_
     intro e w' hh
     obtain ⟨v, he, hx2, hv⟩ := hh
     subst he
     subst hv
     go_wp2
     go_roundg g'
     case measure => omega
     case rel => exact ⟨pos + K, (hx2.block _ (Array.getElem?_eq_some_iff.1 hit2).1).trans hit2, hx.tr hx2, HL.out, by omega⟩
   ·have h65i : ¬ ((R : Nat) : Int) = 65533 := by omega
    have hx : Ext w W := hbw2
    rw [if_neg (fun h => h65 h.1)] at hleft
    have HL := Lib.hid hleft
    clear hleft hR hK hWd hit hbw
    generalize ((R : Nat) : Int) = Ri at *
    go_wp2
    go_roundg g'
    case measure => omega
    case rel => exact ⟨pos + K, hit2, hx, HL.out, by omega⟩
  ·have hnx : ∀ ty, (Instr.next (.pointer (some ⟨w.heap.size, 0, none⟩)) true ty).run Tryz.prog wr = _ := fun ty => Lib.run_next_end_at wr w.heap.size s pos ty hit hps
   have hz : true = Z := by
    rw [← hleft]
    cases gk with
    | zero => rfl
    | succ g => rw [ptsFrom, if_neg hps]
   have HL := Lib.hid hz
   clear hleft hz
   go_wp2
   go_ret
   exact ⟨true, rfl, hbw, HL.out⟩
def pts_ct : Ct := ctc rS.rd fun _ l0 => ct0 fun _ => ([l0.length ≤ 1000000], kB (ptsF l0), [])
theorem pts_h : FnOk Tryz.prog Tr 95 pts_ct := by
 refine ⟨fun args H g av objs hF hg ρ w vals hG hp ha => ?_, _, Tryz.func95, by kernel_rfl, by kernel_rfl⟩
 obtain ⟨x0, _, l0, rfl, e0, hF⟩ := ctc_inv hF
 obtain ⟨rfl, rfl, rfl, rfl⟩ := ct0_inv hF
 obtain ⟨v0, vals, rfl, k0, ha⟩ := F2.inv ha
 obtain rfl := F2.inv0 ha
 obtain rfl := aS_ok e0 k0
 refine (pts_c w ⟨l0.toArray⟩).mono fun e w' ⟨r, he, hx, hr⟩ => ⟨_, he, hx, left_val fun ρ => ?_⟩
 rw [hr]; rfl
end Go.Proofs.YtiojofjllkhbhaaGreat
end
