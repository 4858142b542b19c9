import Derived.Test.YtcdljciflkefaaaZ2
import Derived.Test.YtcdljciflkefaaaProg
set_option linter.unusedVariables false
set_option linter.unusedSimpArgs false
section
namespace Go.Sx
open Go.RowKit Go.Ch
abbrev CtA := List AV → Hp → List Nat → List Nat → Option (List Prop × AV × List (Nat × Oj) × List Oj)
def cmc {α : Type} (rd : Hp → AV → Option α) (k : α → CtA) : CtA := fun args H gs ks => match args with | x :: xs => (match rd H x with | some a => k a xs H gs ks | none => none) | [] => none
def notIn (l : List Nat) (i : Nat) : Bool := match l with | [] => true | j :: r => !Nat.beq i j && notIn r i
def disj : List Nat → List Nat → Bool
 | [], _ => true
 | i :: r, l => notIn l i && disj r l
def nodupB : List Nat → Bool
 | [] => true
 | i :: r => notIn r i && nodupB r
def idA : AV → List Nat
 | .c (.wh i) => [i]
 | .c (.sl i _ _) => [i]
 | .c (.dv i _) => [i]
 | .c (.gi i _) => [i]
 | _ => []
def cmb (k : List UInt8 → CtA) : CtA := fun args H gs ks => match args with | x :: xs => (match aB H x, disj (idA x) (gs ++ ks) with | some a, true => k a xs H gs ks | _, _ => none) | [] => none
theorem notIn_ok : ∀ {l : List Nat} {i : Nat}, notIn l i = true → i ∉ l
 | [], _, _, h => by cases h
 | j :: r, i, hn, h => by
  simp only [notIn, Bool.and_eq_true, Bool.not_eq_true'] at hn
  rcases List.mem_cons.1 h with rfl | h
  ·simp at hn
  ·exact notIn_ok hn.2 h
theorem disj_ok : ∀ {l r : List Nat}, disj l r = true → ∀ i, i ∈ l → i ∉ r
 | [], _, _, i, h => by cases h
 | j :: l, r, hd, i, h => by
  simp only [disj, Bool.and_eq_true] at hd
  rcases List.mem_cons.1 h with rfl | h
  ·exact notIn_ok hd.1
  ·exact disj_ok hd.2 i h
theorem nodupB_ok : ∀ {l : List Nat}, nodupB l = true → ∀ (i j k : Nat), l[i]? = some k → l[j]? = some k → i = j
 | [], _, i, _, k, h, _ => by simp at h
 | x :: l, hn, i, j, k, h1, h2 => by
  simp only [nodupB, Bool.and_eq_true] at hn
  cases i with
  | zero => cases j with
   | zero => rfl
   | succ j =>
    simp only [List.getElem?_cons_zero, List.getElem?_cons_succ, Option.some.injEq] at h1 h2
    subst h1
    exact absurd (List.mem_of_getElem? h2) (notIn_ok hn.1)
  | succ i => cases j with
   | zero =>
    simp only [List.getElem?_cons_zero, List.getElem?_cons_succ, Option.some.injEq] at h1 h2
    subst h2
    exact absurd (List.mem_of_getElem? h1) (notIn_ok hn.1)
   | succ j => rw [nodupB_ok hn.2 i j k (by simpa using h1) (by simpa using h2)]
structure MRd (α : Type) where
 rd : Hp → AV → Option α
 ix : Hp → AV → List Nat
 os : Nat → α → List Oj
 ok : ∀ {ρ : Pls} {w : World} {H : Hp} {x : AV} {a : α} {v : Value}, HpR ρ w H → rd H x = some a → avR ρ x v → (∃ i l, ix H x = i :: l) ∧ ∀ k, (os k a).length = (ix H x).length ∧
  (∀ (j : Nat) (o : Oj) (i : Nat), (os k a)[j]? = some o → (ix H x)[j]? = some i → ∃ o', H[i]? = some o' ∧ o'.own = true ∧ o.own = true ∧ o.n = o'.n ∧ o.sz = o'.sz ∧ ∀ g, objAt (ρ i) o g → objAt (ρ i) o' g) ∧
  ∀ ρ' : Pls, (∀ (j i : Nat), (ix H x)[j]? = some i → ρ' (k + j) = ρ i) → (∀ (j : Nat) (o : Oj) (i : Nat), (os k a)[j]? = some o → (ix H x)[j]? = some i → objR ρ' w (ρ i) o) ∧ avR ρ' (kP k 0) v
def cmm {α : Type} (m : MRd α) (k : α → CtA) : CtA := fun args H gs ks => match args with
 | x :: xs => (match m.rd H x, m.ix H x with
  | some a, i :: l => (match disj (i :: l) (gs ++ ks) && nodupB (i :: l) with | true => k a xs H (gs ++ [i]) (ks ++ l) | false => none)
  | _, _ => none)
 | [] => none
structure MC (α : Type) where
 rd : Hp → Cl → Option α
 ix : Hp → Cl → List Nat
 cl : Nat → α → Cl
 os : Nat → α → List Oj
 ok : ∀ {ρ : Pls} {w : World} {H : Hp} {x : Cl} {a : α} {v : Value}, HpR ρ w H → rd H x = some a → clR ρ x v → ∀ k : Nat, (os k a).length = (ix H x).length ∧
  (∀ (j : Nat) (o : Oj) (i : Nat), (os k a)[j]? = some o → (ix H x)[j]? = some i → ∃ o', H[i]? = some o' ∧ o'.own = true ∧ o.own = true ∧ o.n = o'.n ∧ o.sz = o'.sz ∧ ∀ g, objAt (ρ i) o g → objAt (ρ i) o' g) ∧
  ∀ (ρ' : Pls), (∀ (j i : Nat), (ix H x)[j]? = some i → ρ' (k + j) = ρ i) → (∀ (j : Nat) (o : Oj) (i : Nat), (os k a)[j]? = some o → (ix H x)[j]? = some i → objR ρ' w (ρ i) o) ∧ clR ρ' (cl k a) v
abbrev mI : MC Int := ⟨fun _ c => match c with | .s (.k .i64 n) => some n | _ => none, fun _ _ => [], fun _ n => .s (.k .i64 n), fun _ _ => [], fun {ρ w H x a v} _ h hv => by
 split at h
 ·injection h with h; subst h; exact fun k => ⟨rfl, fun j o i ho => by simp at ho, fun ρ' _ => ⟨fun j o i ho => by simp at ho, hv⟩⟩
 ·cases h⟩
abbrev mU8 : MC UInt8 := ⟨fun _ c => match c with | .s (.u8 n) => some n | _ => none, fun _ _ => [], fun _ n => .s (.u8 n), fun _ _ => [], fun {ρ w H x a v} _ h hv => by
 split at h
 ·injection h with h; subst h; exact fun k => ⟨rfl, fun j o i ho => by simp at ho, fun ρ' _ => ⟨fun j o i ho => by simp at ho, hv⟩⟩
 ·cases h⟩
abbrev mE0 (t : TypeId) : MC Unit := ⟨fun _ c => match c with | .s (.v .nilIface) => some () | .s (.er _ _ none) => some () | _ => none, fun _ _ => [], fun _ _ => .s (.er t .i64 none), fun _ _ => [], fun {ρ w H x a v} _ h hv => by
 split at h
 ·exact fun k => ⟨rfl, fun j o i ho => by simp at ho, fun ρ' _ => ⟨fun j o i ho => by simp at ho, hv⟩⟩
 ·exact fun k => ⟨rfl, fun j o i ho => by simp at ho, fun ρ' _ => ⟨fun j o i ho => by simp at ho, hv⟩⟩
 ·cases h⟩
def rowB (H : Hp) (e : TypeId) (c : Cl) : Option (List UInt8) := match c with
 | .wh i => (match H[i]? with | some o => (match o.kd, Nat.beq o.e e, o.sz, o.cs with | .row, true, 1, .b l => some l | _, _, _, _ => none) | none => none)
 | _ => none
def rowZ (H : Hp) (e : TypeId) (c : Cl) : Option (List Int) := match c with
 | .wh i => (match H[i]? with | some o => (match o.kd, Nat.beq o.e e, o.sz, o.cs with | .row, true, 1, .z l => some l | _, _, _, _ => none) | none => none)
 | _ => none
def ixC : Cl → List Nat
 | .wh i => [i]
 | _ => []
theorem row_n {ρ : Pls} {w : World} {p : Pl} {o : Oj} (h : objR ρ w p o) (hk : o.kd = .row) (hs : o.sz = 1) : o.n = o.cs.cl.length := by
 unfold objR at h
 simp only [hk] at h
 have := h.1.2.2
 rw [hs] at this; omega
theorem row_one {ρ : Pls} {w : World} {H : Hp} {i : Nat} {o : Oj} {v : Value} (hp : HpR ρ w H) (ho : H[i]? = some o) (hown : o.own = true) (hlt : ltX 0 o.cs = true) (hv : clR ρ (.wh i) v) : ∀ k : Nat, [o].length = (ixC (.wh i)).length ∧
  (∀ (j : Nat) (o1 : Oj) (i1 : Nat), [o][j]? = some o1 → (ixC (.wh i))[j]? = some i1 → ∃ o', H[i1]? = some o' ∧ o'.own = true ∧ o1.own = true ∧ o1.n = o'.n ∧ o1.sz = o'.sz ∧ ∀ g, objAt (ρ i1) o1 g → objAt (ρ i1) o' g) ∧
  ∀ (ρ' : Pls), (∀ (j i1 : Nat), (ixC (.wh i))[j]? = some i1 → ρ' (k + j) = ρ i1) → (∀ (j : Nat) (o1 : Oj) (i1 : Nat), [o][j]? = some o1 → (ixC (.wh i))[j]? = some i1 → objR ρ' w (ρ i1) o1) ∧ clR ρ' (.wh k) v := fun k => by
 have one : ∀ {j : Nat} {o1 : Oj} {i1 : Nat}, [o][j]? = some o1 → (ixC (.wh i))[j]? = some i1 → o1 = o ∧ i1 = i := fun {j o1 i1} h1 h2 => by
  cases j with
  | zero => simp only [ixC, List.getElem?_cons_zero, Option.some.injEq] at h1 h2; exact ⟨h1.symm, h2.symm⟩
  | succ j => simp at h1
 refine ⟨rfl, fun j o1 i1 h1 h2 => ?_, fun ρ' hk => ⟨fun j o1 i1 h1 h2 => ?_, ?_⟩⟩
 ·obtain ⟨rfl, rfl⟩ := one h1 h2
  exact ⟨_, ho, hown, hown, rfl, rfl, fun g h => h⟩
 ·obtain ⟨rfl, rfl⟩ := one h1 h2
  exact objR_lt (ρ' := ρ') (m := 0) (fun i hi => absurd hi (Nat.not_lt_zero i)) (fun _ => hlt) (hp _ _ ho)
 ·have := hk 0 i rfl
  rw [Nat.add_zero] at this
  show v = _
  rw [this]; exact hv
abbrev mB (e : TypeId) : MC (List UInt8) := ⟨fun H c => rowB H e c, fun _ => ixC, fun k _ => .wh k, fun _ l => [nb e l], fun {ρ w H x a v} hp h hv => by
 unfold rowB at h
 split at h
 ·rename_i i
  split at h
  ·rename_i o ho
   split at h
   ·rename_i l h1 h2 h3 h4
    injection h with h; subst h
    have hn := row_n (hp i o ho) h1 h3
    have e2 := Nat.eq_of_beq_eq_true h2
    have en : o.n = l.length := by rw [hn, h4]; simp [Cs.cl]
    have eo : o = nb e l := by
     obtain ⟨kd, e', sz, n, cs⟩ := o
     simp only at h1 h2 h3 h4 en e2
     subst h1; subst h3; subst h4; subst en; subst e2; rfl
    subst eo
    exact row_one hp ho rfl rfl hv
   ·cases h
  ·cases h
 ·cases h⟩
abbrev mZ (e : TypeId) : MC (List Int) := ⟨fun H c => rowZ H e c, fun _ => ixC, fun k _ => .wh k, fun _ l => [nz e l], fun {ρ w H x a v} hp h hv => by
 unfold rowZ at h
 split at h
 ·rename_i i
  split at h
  ·rename_i o ho
   split at h
   ·rename_i l h1 h2 h3 h4
    injection h with h; subst h
    have hn := row_n (hp i o ho) h1 h3
    have e2 := Nat.eq_of_beq_eq_true h2
    have en : o.n = l.length := by rw [hn, h4]; simp [Cs.cl]
    have eo : o = nz e l := by
     obtain ⟨kd, e', sz, n, cs⟩ := o
     simp only at h1 h2 h3 h4 en e2
     subst h1; subst h3; subst h4; subst en; subst e2; rfl
    subst eo
    exact row_one hp ho rfl rfl hv
   ·cases h
  ·cases h
 ·cases h⟩
structure ML (α : Type) where
 n : Nat
 rd : Hp → List Cl → Option α
 ix : Hp → List Cl → List Nat
 cl : Nat → α → List Cl
 os : Nat → α → List Oj
 ok : ∀ {ρ : Pls} {w : World} {H : Hp} {x : List Cl} {a : α} {v : List Value}, HpR ρ w H → rd H x = some a → F2 (clR ρ) x v → x.length = n ∧ ∀ k : Nat, (cl k a).length = n ∧ (os k a).length = (ix H x).length ∧
  (∀ (j : Nat) (o : Oj) (i : Nat), (os k a)[j]? = some o → (ix H x)[j]? = some i → ∃ o', H[i]? = some o' ∧ o'.own = true ∧ o.own = true ∧ o.n = o'.n ∧ o.sz = o'.sz ∧ ∀ g, objAt (ρ i) o g → objAt (ρ i) o' g) ∧
  ∀ (ρ' : Pls), (∀ (j i : Nat), (ix H x)[j]? = some i → ρ' (k + j) = ρ i) → (∀ (j : Nat) (o : Oj) (i : Nat), (os k a)[j]? = some o → (ix H x)[j]? = some i → objR ρ' w (ρ i) o) ∧ F2 (clR ρ') (cl k a) v
abbrev mN : ML Unit := ⟨0, fun _ x => match x with | [] => some () | _ => none, fun _ _ => [], fun _ _ => [], fun _ _ => [], fun {ρ w H x a v} _ h hv => by
 cases x with
 | nil => exact ⟨rfl, fun k => ⟨rfl, rfl, fun j o i ho => by simp at ho, fun ρ' _ => ⟨fun j o i ho => by simp at ho, hv.1, fun j x y hx => by simp at hx⟩⟩⟩
 | cons y ys => cases h⟩
theorem parts_at {α : Type} {xs ys : List α} {j : Nat} {o : α} (h : (xs ++ ys)[j]? = some o) : (j < xs.length ∧ xs[j]? = some o) ∨ (xs.length ≤ j ∧ ys[j - xs.length]? = some o) := by
 by_cases hj : j < xs.length
 ·rw [List.getElem?_append_left hj] at h; exact .inl ⟨hj, h⟩
 ·rw [List.getElem?_append_right (by omega)] at h; exact .inr ⟨by omega, h⟩
abbrev mC {α β : Type} (c : MC α) (l : ML β) : ML (α × β) := ⟨l.n + 1, fun H x => match x with | y :: ys => (match c.rd H y with | some a => (match l.rd H ys with | some b => some (a, b) | none => none) | none => none) | [] => none,
 fun H x => match x with | y :: ys => c.ix H y ++ l.ix H ys | [] => [], fun k p => c.cl k p.1 :: l.cl (k + (c.os k p.1).length) p.2, fun k p => c.os k p.1 ++ l.os (k + (c.os k p.1).length) p.2, fun {ρ w H x a v} hp h hv => by
  cases x with
  | nil => cases h
  | cons y ys =>
   dsimp only at h
   split at h
   ·rename_i a1 h1
    split at h
    ·rename_i b1 h2
     injection h with h; subst h
     obtain ⟨u, us, rfl, hu, hus⟩ := hv.uncons
     have hc := c.ok hp h1 hu
     obtain ⟨d0, hd⟩ := l.ok hp h2 hus
     refine ⟨by simp [d0], fun k => ?_⟩
     obtain ⟨c1, c2, c3⟩ := hc k
     obtain ⟨d1, d2, d3, d4⟩ := hd (k + (c.os k a1).length)
     have par : ∀ {j : Nat} {o : Oj} {i : Nat}, (c.os k a1 ++ l.os (k + (c.os k a1).length) b1)[j]? = some o → (c.ix H y ++ l.ix H ys)[j]? = some i → ((c.os k a1)[j]? = some o ∧ (c.ix H y)[j]? = some i) ∨ ((l.os (k + (c.os k a1).length) b1)[j - (c.os k a1).length]? = some o ∧ (l.ix H ys)[j - (c.os k a1).length]? = some i) := by
      intro j o i ho hi
      rcases parts_at ho with ⟨e1, e2⟩ | ⟨e1, e2⟩
      ·rcases parts_at hi with ⟨e3, e4⟩ | ⟨e3, _⟩
       ·exact .inl ⟨e2, e4⟩
       ·omega
      ·rcases parts_at hi with ⟨e3, _⟩ | ⟨e3, e4⟩
       ·omega
       ·exact .inr ⟨e2, by rw [c1]; exact e4⟩
     refine ⟨by simp [d1], by show (c.os k a1 ++ l.os (k + (c.os k a1).length) b1).length = (c.ix H y ++ l.ix H ys).length; rw [List.length_append, d2, c1, List.length_append], fun j o i ho hi => ?_, fun ρ' hk => ?_⟩
     ·rcases par ho hi with ⟨e1, e2⟩ | ⟨e1, e2⟩
      ·exact c2 j o i e1 e2
      ·exact d3 _ o i e1 e2
     ·obtain ⟨k1, k2⟩ := c3 ρ' fun j i hi => hk j i (by rw [List.getElem?_append_left (List.getElem?_eq_some_iff.1 hi).1]; exact hi)
      obtain ⟨k3, k4⟩ := d4 ρ' fun j i hi => by
       rw [Nat.add_assoc]
       refine hk _ i ?_
       rw [List.getElem?_append_right (by rw [c1]; omega), c1, Nat.add_sub_cancel_left]; exact hi
      refine ⟨fun j o i ho hi => ?_, F2.cons k2 k4⟩
      rcases par ho hi with ⟨e1, e2⟩ | ⟨e1, e2⟩
      ·exact k1 j o i e1 e2
      ·exact k3 _ o i e1 e2
    ·cases h
   ·cases h⟩
def rowL (H : Hp) (e : TypeId) (sz n i : Nat) : Option (List Cl) := match H[i]? with
 | some o => (match o.kd, Nat.beq o.e e, Nat.beq o.sz sz, Nat.beq o.n n, o.cs with | .row, true, true, true, .c l => some l | _, _, _, _, _ => none)
 | none => none
def whI : Cl → Option Nat
 | .wh i => some i
 | _ => none
abbrev mR {α : Type} (e : TypeId) (sz n : Nat) (l : ML α) : MC α := ⟨fun H c => match whI c with | some i => (match rowL H e sz n i with | some cs => l.rd H cs | none => none) | none => none,
 fun H c => match whI c with | some i => (match rowL H e sz n i with | some cs => i :: l.ix H cs | none => []) | none => [],
 fun k _ => .wh k, fun k a => ⟨.row, e, sz, n, .c (l.cl (k + 1) a)⟩ :: l.os (k + 1) a, fun {ρ w H x a v} hp h hv => by
  split at h
  ·rename_i i hi
   split at h
   ·rename_i cs hcs
    have hcs0 := hcs
    unfold rowL at hcs
    split at hcs
    ·rename_i o ho
     split at hcs
     ·rename_i cs2 h1 h2 h3 h4 h5
      injection hcs with hcs; subst hcs
      have hr := hp i o ho
      unfold objR at hr
      simp only [h1] at hr
      obtain ⟨⟨e1, e2, e3⟩, vs, hc, hB⟩ := hr
      have hcl : F2 (clR ρ) cs2 vs := by rw [h5] at hc; exact hc
      obtain ⟨d0, hd⟩ := l.ok hp h hcl
      have hoe := Nat.eq_of_beq_eq_true h2
      have hos := Nat.eq_of_beq_eq_true h3
      have hon := Nat.eq_of_beq_eq_true h4
      have hln : l.n = n * sz := by rw [← d0, ← hos, ← hon, ← e3, h5]; rfl
      intro k
      obtain ⟨d1, d2, d3, d4⟩ := hd (k + 1)
      refine ⟨by simp [d2], fun j o' i' ho' hi' => ?_, fun ρ' hk => ?_⟩
      ·cases j with
       | zero =>
        simp only [List.getElem?_cons_zero, Option.some.injEq] at ho' hi'
        subst ho'; subst hi'
        refine ⟨o, ho, by unfold Oj.own; rw [h1], rfl, hon.symm, hos.symm, fun g hg => ?_⟩
        unfold objAt at hg ⊢
        simp only [h1]; exact hg
       | succ j => exact d3 j o' i' (by simpa using ho') (by simpa using hi')
      ·obtain ⟨k1, k2⟩ := d4 ρ' fun j i hi => by
        have := hk (j + 1) i (by simpa using hi)
        rw [Nat.add_assoc, Nat.add_comm 1 j]; exact this
       refine ⟨fun j o' i' ho' hi' => ?_, ?_⟩
       ·cases j with
        | zero =>
         simp only [List.getElem?_cons_zero, Option.some.injEq] at ho' hi'
         subst ho'; subst hi'
         unfold objR
         exact ⟨⟨by rw [e1, hos], by rw [e2, hon], by show (l.cl (k + 1) a).length = n * sz; rw [d1, hln]⟩, vs, k2, by rw [← hoe, ← hos]; exact hB⟩
        | succ j => exact k1 j o' i' (by simpa using ho') (by simpa using hi')
       ·have hx : x = .wh i := by
         unfold whI at hi
         split at hi
         ·injection hi with hi; subst hi; rfl
         ·cases hi
        subst hx
        have := hk 0 i rfl
        rw [Nat.add_zero] at this
        show v = _
        rw [this]; exact hv
     ·cases hcs
    ·cases hcs
   ·cases h
  ·cases h⟩
def blkC (H : Hp) (e : TypeId) (n i : Nat) : Option (List Cl) := match H[i]? with
 | some o => (match o.kd, Nat.beq o.e e, o.sz, Nat.beq o.n n, o.cs with | .blk, true, 1, true, .c l => some l | _, _, _, _, _ => none)
 | none => none
abbrev mEr (t : TypeId) : MC (Option Int) := ⟨fun _ c => erO t c, fun _ _ => [], fun _ e => .s (.er t .i64 e), fun _ _ => [], fun {ρ w H x a v} _ h hv => fun k => ⟨rfl, fun j o i ho => by simp at ho, fun ρ' _ => ⟨fun j o i ho => by simp at ho, erO_ok h hv⟩⟩⟩
def spG (H : Hp) (e : TypeId) (x : Dsh) (i : Nat) : Option (Nat × List x.T × Nat) := match H[i]? with
 | some o => (match o.kd, Nat.beq o.e e, Nat.beq o.sz x.sz, o.cs with
  | .row, true, true, .g j k sz [] => (match H[j]?, Nat.beq sz x.sz with
   | some og, true => (match og.kd, og.cs with
    | .og, .d y l => (match castD x y l with | some l' => some (k, l', j) | none => none)
    | _, _ => none)
   | _, _ => none)
  | _, _, _, _ => none)
 | none => none
theorem spG_ok {H : Hp} {e : TypeId} {x : Dsh} {i k j : Nat} {l : List x.T} (h : spG H e x i = some (k, l, j)) :
  ∃ o og, H[i]? = some o ∧ o.kd = .row ∧ o.e = e ∧ o.sz = x.sz ∧ o.cs = .g j k x.sz [] ∧ H[j]? = some og ∧ og.kd = .og ∧ og.cs = .d x l := by
 unfold spG at h
 split at h
 ·rename_i o ho
  split at h
  ·rename_i j' k' sz' h1 h2 h3 h4
   split at h
   ·rename_i og hog hb
    split at h
    ·rename_i y l0 h5 h6
     split at h
     ·rename_i l' hc
      injection h with h; simp only [Prod.mk.injEq] at h; obtain ⟨rfl, rfl, rfl⟩ := h
      obtain ⟨rfl, rfl⟩ := castD_ok hc
      exact ⟨o, og, ho, h1, Nat.eq_of_beq_eq_true h2, Nat.eq_of_beq_eq_true h3, by rw [h4, Nat.eq_of_beq_eq_true hb], hog, h5, h6⟩
     ·cases h
    ·cases h
   ·cases h
  ·cases h
 ·cases h
theorem ghc_mv {ρ ρ' : Pls} {j j' n sz : Nat} {vs : List Value} (e : ρ' j' = ρ j) (h : F2 (clR ρ) (ghc j n sz) vs) : F2 (clR ρ') (ghc j' n sz) vs := by
 refine ⟨by rw [ghc_len, ← h.1, ghc_len], fun q x y hx hy => ?_⟩
 unfold ghc at hx
 rw [List.getElem?_map] at hx
 obtain ⟨z, hz, rfl⟩ := Option.map_eq_some_iff.1 hx
 have := h.2 q (.gh j [(z / sz, z % sz)]) y (by unfold ghc; rw [List.getElem?_map, hz]; rfl) hy
 simp only [clR] at this ⊢
 rw [e]; exact this
abbrev mG (e : TypeId) (x : Dsh) : MC (Nat × List x.T) := ⟨fun H c => match whI c with | some i => (match spG H e x i with | some (k, l, _) => some (k, l) | none => none) | none => none,
 fun H c => match whI c with | some i => (match spG H e x i with | some (_, _, j) => [i, j] | none => []) | none => [],
 fun k _ => .wh k, fun k a => [⟨.row, e, x.sz, a.1, .g (k + 1) a.1 x.sz []⟩, ⟨.og, e, x.sz, a.2.length, .d x a.2⟩], fun {ρ w H c a v} hp h hv => by
  split at h
  ·rename_i i hi
   split at h
   ·rename_i k0 l j hsp
    injection h with h; subst h
    obtain ⟨o, og, h1, h2, h3, h4, h5, h6, h7, h8⟩ := spG_ok hsp
    have hr := hp i o h1
    unfold objR at hr
    simp only [h2] at hr
    obtain ⟨⟨e1, e2, e3⟩, vs, hc, hB⟩ := hr
    have hcl : F2 (clR ρ) (ghc j k0 x.sz ++ []) vs := by rw [h5] at hc; exact hc
    have hn : o.n = k0 := by
     rw [h5] at e3
     have e3' : (ghc j k0 x.sz ++ []).length = o.n * o.sz := e3
     rw [List.append_nil, ghc_len, h4] at e3'
     exact (Nat.eq_of_mul_eq_mul_right x.sz_pos e3').symm
    have hg := hp j og h6
    unfold objR at hg
    simp only [h7] at hg
    unfold OgR at hg
    rw [h8] at hg
    obtain ⟨g0, ⟨g1, g2, g3, g4⟩, g5⟩ := hg
    intro k
    refine ⟨rfl, fun q o' i' ho' hi' => ?_, fun ρ' hk => ?_⟩
    ·cases q with
     | zero =>
      simp only [List.getElem?_cons_zero, Option.some.injEq] at ho' hi'
      subst ho'; subst hi'
      refine ⟨o, h1, by unfold Oj.own; rw [h2], rfl, hn.symm, h4.symm, fun g hg => ?_⟩
      unfold objAt at hg ⊢
      simp only [h2]; exact hg
     | succ q => cases q with
      | zero =>
       simp only [List.getElem?_cons_succ, List.getElem?_cons_zero, Option.some.injEq] at ho' hi'
       subst ho'; subst hi'
       refine ⟨og, h6, by unfold Oj.own; rw [h7], rfl, g3.symm, g4.symm, fun g hg => ?_⟩
       unfold objAt at hg ⊢
       simp only [h7]; exact hg
      | succ q => simp at ho'
    ·have k0' := hk 0 i rfl
     have k1' := hk 1 j rfl
     rw [Nat.add_zero] at k0'
     refine ⟨fun q o' i' ho' hi' => ?_, ?_⟩
     ·cases q with
      | zero =>
       simp only [List.getElem?_cons_zero, Option.some.injEq] at ho' hi'
       subst ho'; subst hi'
       unfold objR
       refine ⟨⟨by rw [e1, h4], by rw [e2, hn], ?_⟩, vs, ?_, by rw [← h3, ← h4]; exact hB⟩
       ·show (ghc _ _ _ ++ []).length = _
        rw [List.append_nil, ghc_len]
       ·show F2 (clR ρ') (ghc _ _ _ ++ []) vs
        rw [List.append_nil] at hcl ⊢
        exact ghc_mv k1' hcl
      | succ q => cases q with
       | zero =>
        simp only [List.getElem?_cons_succ, List.getElem?_cons_zero, Option.some.injEq] at ho' hi'
        subst ho'; subst hi'
        unfold objR
        exact ⟨g0, ⟨g1.trans g4, g2.trans g3, rfl, rfl⟩, g5⟩
       | succ q => simp at ho'
     ·have hx : c = .wh i := by
       unfold whI at hi
       split at hi
       ·injection hi with hi; subst hi; rfl
       ·cases hi
      subst hx
      show v = _
      rw [k0']; exact hv
   ·cases h
  ·cases h⟩
def ptI : AV → Option Nat
 | .c (.pt i 0) => some i
 | _ => none
abbrev mP {α : Type} (e : TypeId) (l : ML α) : MRd α := ⟨fun H x => match ptI x with | some i => (match blkC H e l.n i with | some cs => l.rd H cs | none => none) | none => none,
 fun H x => match ptI x with | some i => (match blkC H e l.n i with | some cs => i :: l.ix H cs | none => []) | none => [],
 fun k a => ⟨.blk, e, 1, l.n, .c (l.cl (k + 1) a)⟩ :: l.os (k + 1) a, fun {ρ w H x a v} hp h hv => by
  split at h
  ·rename_i i hi
   split at h
   ·rename_i cs hcs
    have hcs0 := hcs
    unfold blkC at hcs
    split at hcs
    ·rename_i o ho
     split at hcs
     ·rename_i cs2 h1 h2 h3 h4 h5
      injection hcs with hcs; subst hcs
      have hr := hp i o ho
      unfold objR at hr
      simp only [h1] at hr
      obtain ⟨⟨e1, e2, e3⟩, b, vs, hA, hc, hB⟩ := hr
      have hcl : F2 (clR ρ) cs2 vs := by rw [h5] at hc; exact hc
      obtain ⟨d0, hd⟩ := l.ok hp h hcl
      have hoe := Nat.eq_of_beq_eq_true h2
      have hon := Nat.eq_of_beq_eq_true h4
      refine ⟨⟨_, _, rfl⟩, fun k => ?_⟩
      obtain ⟨d1, d2, d3, d4⟩ := hd (k + 1)
      refine ⟨by simp [d2], fun j o' i' ho' hi' => ?_, fun ρ' hk => ?_⟩
      ·cases j with
       | zero =>
        simp only [List.getElem?_cons_zero, Option.some.injEq] at ho' hi'
        subst ho'; subst hi'
        refine ⟨o, ho, by unfold Oj.own; rw [h1], rfl, hon.symm, h3.symm, fun g hg => ?_⟩
        unfold objAt at hg ⊢
        simp only [h1]; exact hg
       | succ j => exact d3 j o' i' (by simpa using ho') (by simpa using hi')
      ·obtain ⟨k1, k2⟩ := d4 ρ' fun j i hi => by
        have := hk (j + 1) i (by simpa using hi)
        rw [Nat.add_assoc, Nat.add_comm 1 j]; exact this
       refine ⟨fun j o' i' ho' hi' => ?_, ?_⟩
       ·cases j with
        | zero =>
         simp only [List.getElem?_cons_zero, Option.some.injEq] at ho' hi'
         subst ho'; subst hi'
         unfold objR
         exact ⟨⟨by rw [e1, h3], by rw [e2, hon], by show (l.cl (k + 1) a).length = l.n * 1; rw [d1]; omega⟩, b, vs, hA, k2, by rw [← hoe]; exact hB⟩
        | succ j => exact k1 j o' i' (by simpa using ho') (by simpa using hi')
       ·have hx : x = .c (.pt i 0) := by
         unfold ptI at hi
         split at hi
         ·injection hi with hi; subst hi; rfl
         ·cases hi
        subst hx
        obtain ⟨g0, ad, g1, rfl⟩ := hv
        have := hk 0 i rfl
        rw [Nat.add_zero] at this
        exact ⟨by rw [this]; exact g0, ad, by rw [this]; exact g1, rfl⟩
     ·cases hcs
    ·cases hcs
   ·cases h
  ·cases h⟩
structure HmI (mm : Bool) (ρ : Pls) (w : World) (H : Hp) (az : List AV) (os : Hp) (gs ks : List Nat) (ps : List Pl) (v0 : List Value) : Prop where
 cnt : mm = true → gs.length = az.length
 len : os.length = ps.length
 val : ∀ ρ' : Pls, Pat ps 0 ρ' → (∀ (j : Nat) (o : Oj) (p : Pl), os[j]? = some o → ps[j]? = some p → objR ρ' w p o) ∧ F2 (avR ρ') az v0
 own : ∀ (j : Nat) (o : Oj) (p : Pl) (g : Nat), os[j]? = some o → ps[j]? = some p → objAt p o g → (o.own = true ∧ ∃ i o', i ∈ gs ++ ks ∧ H[i]? = some o' ∧ o'.own = true ∧ objAt (ρ i) o' g) ∨ (o.own = false ∧ o.fsh = false ∧ ∃ i o', i ∉ gs ++ ks ∧ H[i]? = some o' ∧ objAt (ρ i) o' g)
 sep : ∀ (i j : Nat) (a b : Oj) (p q : Pl) (g : Nat), i ≠ j → os[i]? = some a → os[j]? = some b → ps[i]? = some p → ps[j]? = some q → a.own = true → objAt p a g → ¬ objAt q b g
 gho : ∀ (q i : Nat), gs[q]? = some i → ∃ k o o', az[q]? = some (kP k 0) ∧ os[k]? = some o ∧ ps[k]? = some (ρ i) ∧ H[i]? = some o' ∧ o.n = o'.n ∧ o.sz = o'.sz
 ina : ∀ i, i ∈ gs ++ ks → ∃ o', H[i]? = some o' ∧ o'.own = true
 nod : ∀ (i j k : Nat), (gs ++ ks)[i]? = some k → (gs ++ ks)[j]? = some k → i = j
def HOM (mm : Bool) (P : Program) (f : FuncId) (F : CtA) (az : List AV) (os : Hp) : Prop :=
 ∀ (args : List AV) (H : Hp) (g : List Prop) (av : AV) (up : List (Nat × Oj)) (objs : List Oj) (gs ks : List Nat), F args H gs ks = some (g, av, up, objs) → allP g → ∀ (ρ : Pls) (w : World) (vals : List Value), HpR ρ w H → SepR ρ H → F2 (avR ρ) args vals →
  ∀ (ps : List Pl) (v0 : List Value), HmI mm ρ w H az os gs ks ps v0 →
   Calls P f (v0 ++ vals).toArray w (Ret fun v w' => Kp ⟨consB ρ H up, fun _ => undef, fun _ => False⟩ w w' ∧ ∃ ps pu, LeftM ρ w H av up objs v w' ps pu)
def allOwn : Hp → Bool
 | [] => true
 | o :: l => o.own && allOwn l
theorem allOwn_ok : ∀ {H : Hp}, allOwn H = true → ∀ (i : Nat) (o : Oj), H[i]? = some o → o.own = true
 | [], _, i, o, h => by simp at h
 | x :: l, h, i, o, ho => by
  simp only [allOwn, Bool.and_eq_true] at h
  cases i with
  | zero => simp at ho; subst ho; exact h.1
  | succ i => exact allOwn_ok h.2 i o (by simpa using ho)
section
variable {P : Program} {f : FuncId} {az : List AV} {os : Hp} {T : Tab}
theorem mem_perm {gs ks l : List Nat} {i k : Nat} : k ∈ (gs ++ [i]) ++ (ks ++ l) ↔ k ∈ gs ++ ks ∨ k ∈ i :: l := by
 simp only [List.mem_append, List.mem_cons, List.not_mem_nil, or_false]
 constructor
 ·rintro ((h | h) | (h | h)) <;> simp [h]
 ·rintro ((h | h) | (h | h)) <;> simp [h]
theorem nod_iff {l : List Nat} : (∀ (i j k : Nat), l[i]? = some k → l[j]? = some k → i = j) ↔ l.Nodup := by
 rw [List.Nodup, List.pairwise_iff_getElem]
 constructor
 ·intro h i j hi hj hij e
  have := h i j l[i] (List.getElem?_eq_getElem hi) (by rw [List.getElem?_eq_getElem hj]; exact congrArg some e.symm)
  omega
 ·intro h i j k hi hj
  obtain ⟨hi1, hi2⟩ := List.getElem?_eq_some_iff.1 hi
  obtain ⟨hj1, hj2⟩ := List.getElem?_eq_some_iff.1 hj
  rcases Nat.lt_trichotomy i j with hlt | he | hlt
  ·exact absurd (hi2.trans hj2.symm) (h i j hi1 hj1 hlt)
  ·exact he
  ·exact absurd (hj2.trans hi2.symm) (h j i hj1 hi1 hlt)
theorem HM_c {mm : Bool} {α : Type} (r : Rd α) {K : α → CtA} (h : ∀ a, r.pr a → HOM false P f (K a) (az ++ [r.op 0 a]) os) (h0 : ∀ k a, r.os k a = [] ∧ r.op k a = r.op 0 a := by exact fun _ _ => ⟨rfl, rfl⟩) : HOM mm P f (cmc r.rd K) az os := by
 intro args H g av up objs gs ks hF hg ρ w vals hp hs ha ps v0 hI
 cases args with
 | nil => cases hF
 | cons x xs =>
  simp only [cmc] at hF
  split at hF
  ·rename_i a hx
   obtain ⟨v, vs, rfl, hv, ha⟩ := F2.inv ha
   obtain ⟨hpr, qs, g1, k1⟩ := r.ok hp hx hv
   have hqs : qs = [] := List.eq_nil_of_length_eq_zero (by rw [← (g1 0).1, (h0 0 a).1]; rfl)
   subst hqs
   have := h a hpr xs H g av up objs gs ks hF hg ρ w vs hp hs ha ps (v0 ++ [v]) ⟨(fun h => nomatch h), hI.len, fun ρ' hk => ⟨(hI.val ρ' hk).1, F2.append (hI.val ρ' hk).2 (F2.cons ((k1 0 ρ' (fun j p hj => by simp at hj)).2) F2.nil)⟩, hI.own, hI.sep, fun q i hq => by
    obtain ⟨k, o, o', h1, h2⟩ := hI.gho q i hq
    exact ⟨k, o, o', by rw [List.getElem?_append_left (List.getElem?_eq_some_iff.1 h1).1]; exact h1, h2⟩, hI.ina, hI.nod⟩
   rw [List.append_assoc] at this
   exact this
  ·cases hF
theorem HM_m {α : Type} (m : MRd α) {K : α → CtA} (h : ∀ a, HOM true P f (K a) (az ++ [kP os.length 0]) (os ++ m.os os.length a)) (ho : ∀ (i : Nat) (o : Oj), os[i]? = some o → o.own = true) : HOM true P f (cmm m K) az os := by
 intro args H g av up objs gs ks hF hg ρ w vals hp hs ha ps v0 hI
 have hgn := hI.cnt rfl
 cases args with
 | nil => cases hF
 | cons x xs =>
   simp only [cmm] at hF
   split at hF
   ·rename_i a i l hx hix
    split at hF
    ·rename_i hck
     simp only [Bool.and_eq_true] at hck
     have hdj := disj_ok hck.1
     obtain ⟨v, vs, rfl, hv, ha⟩ := F2.inv ha
     obtain ⟨_, hk0⟩ := m.ok hp hx hv
     obtain ⟨e1, e2, e3⟩ := hk0 os.length
     rw [hix] at e1 e2 e3
     have hqat : ∀ {j p}, ((i :: l).map ρ)[j]? = some p → ∃ i', (i :: l)[j]? = some i' ∧ p = ρ i' := fun {j p} hj => by
      rw [List.getElem?_map] at hj
      cases hi : (i :: l)[j]? with
      | none => rw [hi] at hj; cases hj
      | some i' => rw [hi] at hj; injection hj with hj; exact ⟨i', hi, hj.symm⟩
     have hnod : ((gs ++ [i]) ++ (ks ++ l)).Nodup := by
      have h1 : (gs ++ ks).Nodup := nod_iff.1 hI.nod
      have h2 : (i :: l).Nodup := nod_iff.1 (nodupB_ok hck.2)
      have h3 : ((gs ++ ks) ++ (i :: l)).Nodup := by
       rw [List.nodup_append]
       exact ⟨h1, h2, fun a ha b hb e => by subst e; exact hdj a hb ha⟩
      refine List.Perm.nodup ?_ h3
      rw [List.append_assoc, List.append_assoc]
      refine List.Perm.append_left gs ?_
      show (ks ++ i :: l).Perm (i :: (ks ++ l))
      exact List.perm_middle
     have hpart : ∀ {j : Nat} {o : Oj} {p : Pl}, (os ++ m.os os.length a)[j]? = some o → (ps ++ (i :: l).map ρ)[j]? = some p → (j < os.length ∧ os[j]? = some o ∧ ps[j]? = some p) ∨ ∃ q i', j = os.length + q ∧ (m.os os.length a)[q]? = some o ∧ (i :: l)[q]? = some i' ∧ p = ρ i' := by
      intro j o p hoj hpj
      by_cases hj : j < os.length
      ·rw [List.getElem?_append_left hj] at hoj
       rw [List.getElem?_append_left (by rw [← hI.len]; exact hj)] at hpj
       exact .inl ⟨hj, hoj, hpj⟩
      ·rw [List.getElem?_append_right (by omega)] at hoj
       rw [List.getElem?_append_right (by rw [← hI.len]; omega), ← hI.len] at hpj
       obtain ⟨i', h1, h2⟩ := hqat hpj
       exact .inr ⟨j - os.length, i', by omega, hoj, h1, h2⟩
     have := h a xs H g av up objs (gs ++ [i]) (ks ++ l) hF hg ρ w vs hp hs ha (ps ++ (i :: l).map ρ) (v0 ++ [v]) ⟨fun _ => by simp [hgn], by rw [List.length_append, List.length_append, e1, List.length_map, hI.len], fun ρ' hk => ?_, fun j o p g hoj hpj hat => ?_, fun j k x y p q g hjk hx' hy' hp' hq' hox hat hat2 => ?_, fun q j hq' => ?_, fun j hj => ?_, nod_iff.2 hnod⟩
     ·rw [List.append_assoc] at this; exact this
     ·obtain ⟨v1, v2⟩ := hI.val ρ' (Pat.left hk)
      have hr := Pat.right hk hI.len
      rw [Nat.zero_add] at hr
      obtain ⟨w1, w2⟩ := e3 ρ' fun j i' hi' => hr j (ρ i') (by rw [List.getElem?_map, hi']; rfl)
      refine ⟨fun j o p hoj hpj => ?_, F2.append v2 (F2.cons w2 F2.nil)⟩
      rcases hpart hoj hpj with ⟨_, h1, h2⟩ | ⟨q, i', rfl, h1, h2, rfl⟩
      ·exact v1 j o p h1 h2
      ·exact w1 q o i' h1 h2
     ·rcases hpart hoj hpj with ⟨_, h1, h2⟩ | ⟨q, i', rfl, h1, h2, rfl⟩
      ·rcases hI.own j o p g h1 h2 hat with ⟨h3, i', o', h4, h5⟩ | ⟨h3, _⟩
       ·exact .inl ⟨h3, i', o', mem_perm.2 (.inl h4), h5⟩
       ·rw [ho j o h1] at h3; cases h3
      ·obtain ⟨o', h3, h4, h5, _, _, h6⟩ := e2 q o i' h1 h2
       exact .inl ⟨h5, i', o', mem_perm.2 (.inr (List.mem_of_getElem? h2)), h3, h4, h6 g hat⟩
     ·have cross : ∀ {j : Nat} {o : Oj} {p : Pl} {q : Nat} {o2 : Oj} {i' : Nat}, os[j]? = some o → ps[j]? = some p → objAt p o g → (m.os os.length a)[q]? = some o2 → (i :: l)[q]? = some i' → objAt (ρ i') o2 g → False := by
       intro j o p q o2 i' h1 h2 h3 h4 h5 h6
       rcases hI.own j o p g h1 h2 h3 with ⟨_, i2, o', h7, h8, h9, h10⟩ | ⟨h7, _⟩
       ·obtain ⟨o'', k1, k2, _, _, _, k3⟩ := e2 q o2 i' h4 h5
        refine hs i2 i' o' o'' g (fun e => ?_) h8 k1 h9 h10 (k3 g h6)
        subst e
        exact hdj i2 (List.mem_of_getElem? h5) h7
       ·rw [ho j o h1] at h7; cases h7
      rcases hpart hx' hp' with ⟨_, h1, h2⟩ | ⟨q1, i1, rfl, h1, h2, rfl⟩
      ·rcases hpart hy' hq' with ⟨_, h3, h4⟩ | ⟨q2, i2, rfl, h3, h4, rfl⟩
       ·exact hI.sep j k x y p q g hjk h1 h3 h2 h4 hox hat hat2
       ·exact cross h1 h2 hat h3 h4 hat2
      ·rcases hpart hy' hq' with ⟨_, h3, h4⟩ | ⟨q2, i2, rfl, h3, h4, rfl⟩
       ·exact cross h3 h4 hat2 h1 h2 hat
       ·obtain ⟨o1, k1, k2, _, _, _, k3⟩ := e2 q1 x i1 h1 h2
        obtain ⟨o2, k4, k5, _, _, _, k6⟩ := e2 q2 y i2 h3 h4
        refine hs i1 i2 o1 o2 g (fun e => ?_) k1 k4 k2 (k3 g hat) (k6 g hat2)
        subst e
        exact hjk (by rw [nodupB_ok hck.2 q1 q2 i1 h2 h4])
     ·by_cases hql : q < gs.length
      ·rw [List.getElem?_append_left hql] at hq'
       obtain ⟨k, o, o', h1, h2, h3, h4⟩ := hI.gho q j hq'
       exact ⟨k, o, o', by rw [List.getElem?_append_left (List.getElem?_eq_some_iff.1 h1).1]; exact h1, by rw [List.getElem?_append_left (List.getElem?_eq_some_iff.1 h2).1]; exact h2, by rw [List.getElem?_append_left (List.getElem?_eq_some_iff.1 h3).1]; exact h3, h4⟩
      ·have hq2 : q = gs.length := by
        have := (List.getElem?_eq_some_iff.1 hq').1
        simp at this; omega
       subst hq2
       rw [List.getElem?_append_right (Nat.le_refl _), Nat.sub_self] at hq'
       simp only [List.getElem?_cons_zero, Option.some.injEq] at hq'
       subst hq'
       have hpos : 0 < (m.os os.length a).length := by rw [e1]; simp
       obtain ⟨o', h3, _, _, h6, h7, _⟩ := e2 0 _ i (List.getElem?_eq_getElem hpos) rfl
       refine ⟨os.length, (m.os os.length a)[0], o', ?_, ?_, ?_, h3, h6, h7⟩
       ·rw [hgn, List.getElem?_append_right (Nat.le_refl _), Nat.sub_self]; rfl
       ·rw [List.getElem?_append_right (Nat.le_refl _), Nat.sub_self]; exact List.getElem?_eq_getElem hpos
       ·rw [hI.len, List.getElem?_append_right (Nat.le_refl _), Nat.sub_self]; rfl
     ·rcases mem_perm.1 hj with hj | hj
      ·exact hI.ina j hj
      ·obtain ⟨q, hq'⟩ := List.mem_iff_getElem?.1 hj
       have hlt : q < (m.os os.length a).length := by rw [e1]; exact (List.getElem?_eq_some_iff.1 hq').1
       obtain ⟨o', h3, h4, _⟩ := e2 q _ j (List.getElem?_eq_getElem hlt) hq'
       exact ⟨o', h3, h4⟩
    ·cases hF
   ·cases hF
theorem aB_at {ρ : Pls} {w : World} {H : Hp} (hp : HpR ρ w H) {x : AV} {l : List UInt8} (h : aB H x = some l) {v : Value} (hv : avR ρ x v) {p : Pl} (hpv : v = .slice p.A p.n p.cap) (h0 : 0 < p.n) {ad : Addr} (hA : p.A = some ad) : ∃ i o', i ∈ idA x ∧ H[i]? = some o' ∧ objAt (ρ i) o' ad.block := by
 cases x with
 | c c =>
  have hvb : viewB H c = some l := h
  cases c with
  | nils =>
   rw [show v = _ from hv] at hpv
   injection hpv with a1 a2 a3
   omega
  | wh i =>
   simp only [viewB] at hvb
   split at hvb
   ·rename_i o hl
    obtain ⟨h1, h2⟩ := liveS_ok hl
    obtain ⟨⟨e1, e2, e3⟩, _⟩ := (hp i o h1).read (nd h2)
    split at hvb
    ·rename_i hs hcs
     rw [show v = _ from hv] at hpv
     injection hpv with a1 a2 a3
     refine ⟨i, o, by simp [idA], h1, ?_⟩
     have hkd : ∀ b, o.kd ≠ .dp b := fun b hk => by
      have hr := hp i o h1
      unfold objR at hr
      simp only [hk] at hr
      unfold DpR at hr
      rw [hcs] at hr
      exact hr
     unfold objAt
     rcases h2 with ⟨b, h2⟩ | h2 | h2
     ·simp only [h2]; exact ⟨by rw [e1, hs]; omega, ad, a1.trans hA, rfl⟩
     ·simp only [h2]; exact ⟨ad, a1.trans hA, rfl⟩
     ·exact absurd h2 (fun ⟨b, e⟩ => hkd b e)
    ·cases hvb
   ·cases hvb
  | sl i lo n =>
   simp only [viewB] at hvb
   split at hvb
   ·rename_i o hl
    obtain ⟨h1, h2⟩ := liveS_ok hl
    obtain ⟨⟨e1, e2, e3⟩, _⟩ := (hp i o h1).read (nd h2)
    split at hvb
    ·rename_i hs hcs
     obtain ⟨k1, A, c, hve, k2, k3, k4, k5⟩ := hv
     rw [hve] at hpv
     injection hpv with a1 a2 a3
     have k6 := k5 (by omega)
     rw [a1, hA] at k6
     cases hA0 : (ρ i).A with
     | none => rw [hA0] at k6; cases k6
     | some ad0 =>
      rw [hA0] at k6
      injection k6 with k6
      refine ⟨i, o, by simp [idA], h1, ?_⟩
      have hkd : ∀ b, o.kd ≠ .dp b := fun b hk => by
       have hr := hp i o h1
       unfold objR at hr
       simp only [hk] at hr
       unfold DpR at hr
       rw [hcs] at hr
       exact hr
      have hb : ad0.block = ad.block := by rw [k6, block_add]
      unfold objAt
      rcases h2 with ⟨b, h2⟩ | h2 | h2
      ·simp only [h2]; exact ⟨by rw [e1, hs]; omega, ad0, hA0, hb⟩
      ·simp only [h2]; exact ⟨ad0, hA0, hb⟩
      ·exact absurd h2 (fun ⟨b, e⟩ => hkd b e)
    ·cases hvb
   ·cases hvb
  | dv i q =>
   simp only [viewB] at hvb
   split at hvb
   ·rename_i e t hd
    change List UInt8 at t
    obtain ⟨c, f, hc, A, cap, k1, k2, k3, k4, k5, k6⟩ := dvD_ok hp hd hv.2.1
    have hve : v = .slice A t.length cap := by rw [hv.1, ← hc]; exact k1
    rw [hve] at hpv
    injection hpv with a1 a2 a3
    have h7 := k5 ad (a1.trans hA) (by omega)
    unfold dvD at hd
    split at hd
    ·cases hd
    ·rename_i o ho
     split at hd
     ·rename_i x' l' hk hcs
      refine ⟨i, o, by simp [idA], ho, ?_⟩
      unfold objAt
      simp only [hk]; exact h7
     ·cases hd
   ·cases hvb
  | gi i k =>
   have hvb' : giD H i k = some l := hvb
   obtain ⟨A, cap, hve, k1, k2, k3, k5, k6⟩ := giD_ok hp hvb' hv
   rw [hve] at hpv
   injection hpv with a1 a2 a3
   have h7 := k5 ad (a1.trans hA) (by omega)
   unfold giD at hvb'
   split at hvb'
   ·rename_i o ho
    refine ⟨i, o, by simp [idA], ho, ?_⟩
    unfold objAt
    split at hvb'
    ·rename_i hk hc; simp only [hk]; exact h7
    ·rename_i hk hc; simp only [hk]; exact h7
    ·cases hvb'
   ·cases hvb'
  | _ => cases hvb
 | _ => cases h
theorem HM_b {mm : Bool} (e : TypeId) {K : List UInt8 → CtA} (h : ∀ l, HOM false P f (K l) (az ++ [kH os.length]) (os ++ [ob e l])) : HOM mm P f (cmb K) az os := by
 intro args H g av up objs gs ks hF hg ρ w vals hp hs ha ps v0 hI
 cases args with
 | nil => cases hF
 | cons x xs =>
  simp only [cmb] at hF
  split at hF
  ·rename_i l hx hdj0
   have hdj := disj_ok hdj0
   obtain ⟨v, vs, rfl, hv, ha⟩ := F2.inv ha
   obtain ⟨p, hpv, hpo⟩ := aB_ok hp hx hv e
   have hat : ∀ g, objAt p (ob e l) g → ∃ i o', i ∉ gs ++ ks ∧ H[i]? = some o' ∧ objAt (ρ i) o' g := fun g hg => by
    obtain ⟨hn, ad, hA, rfl⟩ := hg
    obtain ⟨i, o', h1, h2, h3⟩ := aB_at hp hx hv hpv (Nat.pos_of_ne_zero fun e => hn (by rw [e, Nat.zero_mul])) hA
    exact ⟨i, o', hdj i h1, h2, h3⟩
   have hpart : ∀ {j : Nat} {o : Oj} {q : Pl}, (os ++ [ob e l])[j]? = some o → (ps ++ [p])[j]? = some q → (j < os.length ∧ os[j]? = some o ∧ ps[j]? = some q) ∨ (j = os.length ∧ o = ob e l ∧ q = p) := by
    intro j o q hoj hpj
    by_cases hj : j < os.length
    ·rw [List.getElem?_append_left hj] at hoj
     rw [List.getElem?_append_left (by rw [← hI.len]; exact hj)] at hpj
     exact .inl ⟨hj, hoj, hpj⟩
    ·have hj2 : j = os.length := by have := (List.getElem?_eq_some_iff.1 hoj).1; simp at this; omega
     subst hj2
     rw [List.getElem?_append_right (Nat.le_refl _), Nat.sub_self] at hoj
     rw [hI.len, List.getElem?_append_right (Nat.le_refl _), Nat.sub_self] at hpj
     simp only [List.getElem?_cons_zero, Option.some.injEq] at hoj hpj
     exact .inr ⟨rfl, hoj.symm, hpj.symm⟩
   have := h l xs H g av up objs gs ks hF hg ρ w vs hp hs ha (ps ++ [p]) (v0 ++ [v]) ⟨(fun h => nomatch h), by rw [List.length_append, List.length_append, hI.len]; rfl, fun ρ' hk => ?_, fun j o q g hoj hpj hg => ?_, fun j k x y q q' g hjk hx' hy' hp' hq' hox hat1 hat2 => ?_, fun q i hq => ?_, hI.ina, hI.nod⟩
   ·rw [List.append_assoc] at this; exact this
   ·obtain ⟨v1, v2⟩ := hI.val ρ' (Pat.left hk)
    have hr := Pat.right hk hI.len 0 p rfl
    rw [Nat.zero_add, Nat.add_zero] at hr
    refine ⟨fun j o q hoj hpj => ?_, F2.append v2 (F2.cons ?_ F2.nil)⟩
    ·rcases hpart hoj hpj with ⟨_, h1, h2⟩ | ⟨_, rfl, rfl⟩
     ·exact v1 j o q h1 h2
     ·exact hpo ρ'
    ·show v = _
     rw [hr]; exact hpv
   ·rcases hpart hoj hpj with ⟨_, h1, h2⟩ | ⟨_, rfl, rfl⟩
    ·exact hI.own j o q g h1 h2 hg
    ·exact .inr ⟨rfl, rfl, hat g hg⟩
   ·rcases hpart hx' hp' with ⟨_, h1, h2⟩ | ⟨_, rfl, rfl⟩
    ·rcases hpart hy' hq' with ⟨_, h3, h4⟩ | ⟨_, rfl, rfl⟩
     ·exact hI.sep j k x y q q' g hjk h1 h3 h2 h4 hox hat1 hat2
     ·rcases hI.own j x q g h1 h2 hat1 with ⟨_, i1, o1, k1, k2, k3, k4⟩ | ⟨k1, _⟩
      ·obtain ⟨i2, o2, m1, m2, m3⟩ := hat g hat2
       exact hs i1 i2 o1 o2 g (fun e => m1 (e ▸ k1)) k2 m2 k3 k4 m3
      ·rw [hox] at k1; cases k1
    ·cases hox
   ·obtain ⟨k, o, o', h1, h2, h3, h4⟩ := hI.gho q i hq
    exact ⟨k, o, o', by rw [List.getElem?_append_left (List.getElem?_eq_some_iff.1 h1).1]; exact h1, by rw [List.getElem?_append_left (List.getElem?_eq_some_iff.1 h2).1]; exact h2, by rw [List.getElem?_append_left (List.getElem?_eq_some_iff.1 h3).1]; exact h3, h4⟩
  ·cases hF
end
def dnC (nb : Nat) : Cl → Cl
 | .wh i => .wh (i - nb)
 | .sl i lo n => .sl (i - nb) lo n
 | .pt i off => .pt (i - nb) off
 | .dv i p => .dv (i - nb) p
 | .dq i p k f sz => .dq (i - nb) p k f sz
 | .fp f i off => .fp f (i - nb) off
 | .pre i n => .pre (i - nb) n
 | .gh i p => .gh (i - nb) p
 | .gi i k => .gi (i - nb) k
 | c => c
def dnL (nb : Nat) : List Cl → List Cl
 | [] => []
 | c :: l => dnC nb c :: dnL nb l
def dnX (nb : Nat) : Cs → Cs
 | .c l => .c (dnL nb l)
 | .g j n sz tl => .g (j - nb) n sz (dnL nb tl)
 | .p j js => .p (j - nb) js
 | cs => cs
def dn1 (nb : Nat) : A1 → A1
 | .c x => .c (dnC nb x)
 | .g n cs => .g n (dnX nb cs)
def dn1s (nb : Nat) : List A1 → List A1
 | [] => []
 | c :: l => dn1 nb c :: dn1s nb l
def dnA (nb : Nat) : AV → AV
 | .c x => .c (dnC nb x)
 | .g n cs => .g n (dnX nb cs)
 | .t xs => .t (dn1s nb xs)
def dnH (nb : Nat) : Hp → Hp
 | [] => []
 | o :: l => ⟨o.kd, o.e, o.sz, o.n, dnX nb o.cs⟩ :: dnH nb l
def geQ (nb : Nat) (i : Nat) : Bool := Nat.ble nb i
def geH (nb : Nat) : Hp → Bool
 | [] => true
 | o :: l => pX (geQ nb) o.cs && geH nb l
section
variable {ρ : Pls} {nb : Nat}
abbrev lowP (ρ : Pls) (nb : Nat) : Pls := fun i => ρ (nb + i)
theorem low_at {i : Nat} (h : geQ nb i = true) : lowP ρ nb (i - nb) = ρ i := by
 have : nb ≤ i := Nat.le_of_ble_eq_true h
 show ρ (nb + (i - nb)) = _
 rw [Nat.add_sub_cancel' this]
theorem dnC_ok {c : Cl} (h : pC (geQ nb) c = true) {v : Value} (hv : clR ρ c v) : clR (lowP ρ nb) (dnC nb c) v := by
 cases c with
 | s x => exact hv
 | nils => exact hv
 | junk => exact hv
 | wh i => simp only [dnC, clR, low_at (ρ := ρ) (show geQ nb i = true from h)]; exact hv
 | sl i lo n => simp only [dnC, clR, low_at (ρ := ρ) (show geQ nb i = true from h)]; exact hv
 | pt i off => simp only [dnC, clR, low_at (ρ := ρ) (show geQ nb i = true from h)]; exact hv
 | dv i p => simp only [dnC, clR, low_at (ρ := ρ) (show geQ nb i = true from h)]; exact hv
 | dq i p k f sz => simp only [dnC, clR, low_at (ρ := ρ) (show geQ nb i = true from h)]; exact hv
 | fp f i off => simp only [dnC, clR, low_at (ρ := ρ) (show geQ nb i = true from h)]; exact hv
 | pre i n => simp only [dnC, clR, low_at (ρ := ρ) (show geQ nb i = true from h)]; exact hv
 | gh i p => simp only [dnC, clR, low_at (ρ := ρ) (show geQ nb i = true from h)]; exact hv
 | gi i k => simp only [dnC, clR, low_at (ρ := ρ) (show geQ nb i = true from h)]; exact hv
theorem dnL_ok : ∀ {l : List Cl}, pL (geQ nb) l = true → ∀ {vs : List Value}, F2 (clR ρ) l vs → F2 (clR (lowP ρ nb)) (dnL nb l) vs
 | [], _, vs, hv => by rw [hv.unnil]; exact F2.nil
 | c :: l, h, vs, hv => by
  simp only [pL, Bool.and_eq_true] at h
  obtain ⟨v, vs, rfl, h1, h2⟩ := hv.uncons
  exact F2.cons (dnC_ok h.1 h1) (dnL_ok h.2 h2)
theorem dnX_ok {cs : Cs} (h : pX (geQ nb) cs = true) {vs : List Value} (hv : csR ρ cs vs) : csR (lowP ρ nb) (dnX nb cs) vs := by
 cases cs with
 | c l => exact dnL_ok h hv
 | b l => exact csR_b.2 (csR_b.1 hv)
 | w l => exact csR_w.2 (csR_w.1 hv)
 | q l => exact csR_q.2 (csR_q.1 hv)
 | z l => exact csR_z.2 (csR_z.1 hv)
 | d x l => exact csR_d.2 (csR_d.1 hv)
 | g j n sz tl =>
  simp only [pX, Bool.and_eq_true] at h
  have hv' : F2 (clR ρ) (ghc j n sz ++ tl) vs := hv
  have h1 := hv'.take (n * sz)
  have h2 := hv'.drop (n * sz)
  rw [List.take_left' (ghc_len j n sz)] at h1
  rw [List.drop_left' (ghc_len j n sz)] at h2
  have h3 : F2 (clR (lowP ρ nb)) (ghc (j - nb) n sz) (vs.take (n * sz)) := by
   refine ⟨by rw [ghc_len, ← h1.1, ghc_len], fun q x y hx hy => ?_⟩
   unfold ghc at hx
   rw [List.getElem?_map] at hx
   obtain ⟨z, hz, rfl⟩ := Option.map_eq_some_iff.1 hx
   have := h1.2 q (.gh j [(z / sz, z % sz)]) y (by unfold ghc; rw [List.getElem?_map, hz]; rfl) hy
   simp only [clR, low_at (ρ := ρ) h.1] at this ⊢
   exact this
  have := F2.append h3 (dnL_ok h.2 h2)
  rw [List.take_append_drop] at this
  exact this
 | p j js => exact gi_mono (low_at (ρ := ρ) (show geQ nb j = true from h)) hv
theorem dn1_ok {x : A1} (h : p1 (geQ nb) x = true) {v : Value} (hv : a1R ρ x v) : a1R (lowP ρ nb) (dn1 nb x) v := by
 cases x with
 | c x => exact dnC_ok h hv
 | g n cs => obtain ⟨vs, h1, h2⟩ := hv; exact ⟨vs, dnX_ok h h1, h2⟩
theorem dn1s_ok : ∀ {xs : List A1}, p1s (geQ nb) xs = true → ∀ {vs : List Value}, F2 (a1R ρ) xs vs → F2 (a1R (lowP ρ nb)) (dn1s nb xs) vs
 | [], _, vs, hv => by rw [hv.unnil]; exact F2.nil
 | x :: xs, h, vs, hv => by
  simp only [p1s, Bool.and_eq_true] at h
  obtain ⟨v, vs, rfl, h1, h2⟩ := hv.uncons
  exact F2.cons (dn1_ok h.1 h1) (dn1s_ok h.2 h2)
theorem dnA_ok {x : AV} (h : pA (geQ nb) x = true) {v : Value} (hv : avR ρ x v) : avR (lowP ρ nb) (dnA nb x) v := by
 cases x with
 | c x => exact dnC_ok h hv
 | g n cs => obtain ⟨vs, h1, h2⟩ := hv; exact ⟨vs, dnX_ok h h1, h2⟩
 | t xs => obtain ⟨vs, h1, h2⟩ := hv; exact ⟨vs, dn1s_ok h h1, h2⟩
theorem dnX_len (nb : Nat) (cs : Cs) : (dnX nb cs).cl.length = cs.cl.length := by
 cases cs with
 | c l =>
  show (dnL nb l).length = l.length
  induction l with
  | nil => rfl
  | cons c l ih => simp [dnL, ih]
 | g j n sz tl =>
  show (ghc _ _ _ ++ dnL nb tl).length = (ghc _ _ _ ++ tl).length
  rw [List.length_append, List.length_append, ghc_len, ghc_len]
  congr 1
  induction tl with
  | nil => rfl
  | cons c l ih => simp [dnL, ih]
 | p j js => show (js.map _).length = (js.map _).length; rw [List.length_map, List.length_map]
 | _ => rfl
theorem dnH_at : ∀ {H : Hp} {k : Nat} {o : Oj}, (dnH nb H)[k]? = some o → ∃ o', H[k]? = some o' ∧ o = ⟨o'.kd, o'.e, o'.sz, o'.n, dnX nb o'.cs⟩
 | [], k, o, h => by simp [dnH] at h
 | x :: H, k, o, h => by
  cases k with
  | zero => simp [dnH] at h; exact ⟨x, rfl, h.symm⟩
  | succ k => simpa [dnH] using dnH_at (H := H) (k := k) (by simpa [dnH] using h)
theorem dnH_len : ∀ (H : Hp), (dnH nb H).length = H.length
 | [] => rfl
 | x :: H => by simp [dnH, dnH_len H]
theorem geH_ok : ∀ {H : Hp}, geH nb H = true → ∀ (i : Nat) (o : Oj), H[i]? = some o → pX (geQ nb) o.cs = true
 | [], _, i, o, h => by simp at h
 | x :: l, h, i, o, ho => by
  simp only [geH, Bool.and_eq_true] at h
  cases i with
  | zero => simp at ho; subst ho; exact h.1
  | succ i => exact geH_ok h.2 i o (by simpa using ho)
end
theorem objR_re {ρ ρ' : Pls} {w : World} {p : Pl} {o : Oj} {cs : Cs} (hc : ∀ vs, csR ρ o.cs vs → csR ρ' cs vs) (hl : cs.cl.length = o.cs.cl.length) (hkd : ∀ b, o.kd ≠ .gs b) (hdx : ∀ x l, o.cs = .d x l → cs = .d x l) (hr : objR ρ w p o) : objR ρ' w p ⟨o.kd, o.e, o.sz, o.n, cs⟩ := by
 unfold objR at hr ⊢
 cases hk : o.kd with
 | dead => exact True.intro
 | ro fs => simp only [hk] at hr ⊢; obtain ⟨⟨e1, e2, e3⟩, g1, vs, h, hA⟩ := hr; exact ⟨⟨e1, e2, by rw [hl]; exact e3⟩, g1, vs, hc vs h, hA⟩
 | row => simp only [hk] at hr ⊢; obtain ⟨⟨e1, e2, e3⟩, vs, h, hA⟩ := hr; exact ⟨⟨e1, e2, by rw [hl]; exact e3⟩, vs, hc vs h, hA⟩
 | blk => simp only [hk] at hr ⊢; obtain ⟨⟨e1, e2, e3⟩, b, vs, hA, h, hB⟩ := hr; exact ⟨⟨e1, e2, by rw [hl]; exact e3⟩, b, vs, hA, hc vs h, hB⟩
 | gs fs => exact absurd hk (hkd fs)
 | od =>
  simp only [hk] at hr ⊢
  unfold OdR at hr ⊢
  split at hr
  ·rename_i hc2
   rw [hdx _ _ hc2]
   exact hr
  ·exact hr.elim
 | og =>
  simp only [hk] at hr ⊢
  unfold OgR at hr ⊢
  refine ⟨hr.1, ?_⟩
  have hr := hr.2
  split at hr
  ·rename_i hc2
   rw [hdx _ _ hc2]
   exact hr
  ·exact hr.elim
 | dp fs =>
  simp only [hk] at hr ⊢
  unfold DpR at hr ⊢
  split at hr
  ·rename_i hc2
   rw [hdx _ _ hc2]
   exact hr
  ·exact hr.elim
def newH : Hp → Bool
 | [] => true
 | o :: l => (match o.kd with | .row | .blk | .od | .og | .dead | .ro true | .dp true => true | _ => false) && newH l
theorem newH_ok : ∀ {H : Hp}, newH H = true → ∀ (i : Nat) (o : Oj), H[i]? = some o → (∀ b, o.kd ≠ .gs b) ∧ (o.kd = .dead ∨ o.fsh = true)
 | [], _, i, o, h => by simp at h
 | x :: l, h, i, o, ho => by
  simp only [newH, Bool.and_eq_true] at h
  cases i with
  | zero =>
   simp at ho; subst ho
   have h1 := h.1
   unfold Oj.fsh
   cases hk : x.kd with
   | ro b => cases b with
    | true => exact ⟨by simp, .inr rfl⟩
    | false => rw [hk] at h1; cases h1
   | row => exact ⟨by simp, .inr rfl⟩
   | blk => exact ⟨by simp, .inr rfl⟩
   | dead => exact ⟨by simp, .inl rfl⟩
   | dp b => cases b with
    | true => exact ⟨by simp, .inr rfl⟩
    | false => rw [hk] at h1; cases h1
   | gs b => rw [hk] at h1; cases h1
   | od => exact ⟨by simp, .inr rfl⟩
   | og => exact ⟨by simp, .inr rfl⟩
  | succ i => exact newH_ok h.2 i o (by simpa using ho)
def ghl : Nat → List AV → Fr
 | _, [] => []
 | q, x :: xs => (1000000 + q, x) :: ghl (q + 1) xs
def isGh : Nat → Fr → Bool
 | _, [] => true
 | q, (t, x) :: r => Nat.beq t (1000000 + q) && (match x with | .c (.pt i 0) => Nat.beq i q | _ => false) && isGh (q + 1) r
theorem isGh_ok : ∀ {gl : Fr} {q : Nat}, isGh q gl = true → ∀ k, k < gl.length → gl.lookup (1000000 + (q + k)) = some (kP (q + k) 0)
 | [], _, _, k, h => by simp at h
 | (t, x) :: r, q, hg, k, hk => by
  simp only [isGh, Bool.and_eq_true] at hg
  have ht := Nat.eq_of_beq_eq_true hg.1.1
  have hx : x = kP q 0 := by
   have := hg.1.2
   split at this
   ·rename_i i; rw [Nat.eq_of_beq_eq_true this]
   ·cases this
  subst ht; subst hx
  cases k with
  | zero => simp
  | succ k =>
   rw [List.lookup_cons]
   have e : (1000000 + (q + (k + 1)) == 1000000 + q) = false := by rw [beq_eq_false_iff_ne]; omega
   rw [e]
   have := isGh_ok hg.2 k (by simpa using hk)
   rw [show q + 1 + k = q + (k + 1) by omega] at this
   exact this
theorem ghl_look : ∀ {xs : List AV} {q t : Nat} {x : AV}, (ghl q xs).lookup t = some x → ∃ k, t = 1000000 + (q + k) ∧ xs[k]? = some x
 | [], q, t, x, h => by simp [ghl] at h
 | y :: ys, q, t, x, h => by
  simp only [ghl, List.lookup_cons] at h
  split at h
  ·rename_i e
   have : t = 1000000 + q := by simpa using e
   injection h with h; subst h
   exact ⟨0, this, rfl⟩
  ·obtain ⟨k, h1, h2⟩ := ghl_look h
   exact ⟨k + 1, by omega, by simpa using h2⟩
def blkH : Hp → Bool
 | [] => true
 | o :: l => (match o.kd with | .blk => true | _ => false) && blkH l
theorem blkH_ok : ∀ {H : Hp}, blkH H = true → ∀ (i : Nat) (o : Oj), H[i]? = some o → o.kd = .blk
 | [], _, i, o, h => by simp at h
 | x :: l, h, i, o, ho => by
  simp only [blkH, Bool.and_eq_true] at h
  cases i with
  | zero =>
   simp at ho; subst ho
   have := h.1
   split at this
   ·assumption
   ·cases this
  | succ i => exact blkH_ok h.2 i o (by simpa using ho)
def retM (T : Tab) (s : S) (rs : List ResultVar) (objs : List Nat) (nb : Nat) : Option (AV × Hp × Hp) := match resA T s rs with
 | some av => (match keep [0] objs ⟨[(0, av)], s.gl, s.H⟩ with
  | some ⟨[(0, x)], gl, H⟩ => (match isGh 0 gl && (Nat.beq gl.length nb && (pA (geQ nb) x && (geH nb H && (blkH (H.take nb) && (newH (H.drop nb) && Nat.ble nb H.length))))), ltA (H.length - nb) (dnA nb x) && ltH (H.length - nb) (dnH nb H) with
   | true, true => some (dnA nb x, dnH nb (H.take nb), dnH nb (H.drop nb))
   | _, _ => none)
  | _ => none)
 | none => none
abbrev deadO : Oj := ⟨.dead, 0, 0, 0, .c []⟩
def cmR (gsP : Prop) (x : AV) (G H' : Hp) : CtA := fun args H gs ks => match args, decide (gs.length = G.length) with
 | [], true => some ([gsP], shA H.length x, gs.zip (shH H.length G) ++ ks.map (fun i => (i, deadO)), shH H.length H')
 | _, _ => none
def chkG (az : List AV) (os : Hp) : Nat → Hp → Bool
 | _, [] => true
 | q, o :: G => (match az[q]? with
  | some (.c (.pt k 0)) => (match os[k]? with | some o0 => Nat.beq o0.n o.n && Nat.beq o0.sz o.sz | none => false)
  | _ => false) && chkG az os (q + 1) G
theorem chkG_ok {az : List AV} {os : Hp} : ∀ {G : Hp} {q : Nat}, chkG az os q G = true → ∀ (j k : Nat) (o o0 : Oj), G[j]? = some o → az[q + j]? = some (kP k 0) → os[k]? = some o0 → o0.n = o.n ∧ o0.sz = o.sz
 | [], _, _, j, k, o, o0, h, _, _ => by simp at h
 | x :: G, q, hc, j, k, o, o0, h, ha, ho => by
  simp only [chkG, Bool.and_eq_true] at hc
  cases j with
  | zero =>
   simp only [List.getElem?_cons_zero, Option.some.injEq] at h; subst h
   rw [Nat.add_zero] at ha
   have h1 := hc.1
   rw [ha] at h1
   simp only [ho, Bool.and_eq_true] at h1
   exact ⟨Nat.eq_of_beq_eq_true h1.1, Nat.eq_of_beq_eq_true h1.2⟩
  | succ j => exact chkG_ok hc.2 j k o o0 (by simpa using h) (by rw [show q + 1 + j = q + (j + 1) by omega]; exact ha) ho
section
variable {P : Program} {f : FuncId} {az : List AV} {os : Hp} {T : Tab}
theorem calls_WB {bs : Bs} {w : World} {f : FuncId} {fn : Func} {c : Code} {vals : List Value} {s0 : S} {n : Nat} (hf : P.funcs[f]? = some fn) (hb : fn.body = some c) (hn : fn.ntmps = n)
  (h0 : Rel n bs w s0 { tmps := vals.toArray ++ Array.replicate (n - vals.toArray.size) undef, defers := [] } w) {Q : Exit → S → Prop} (hW : W P n bs w c s0 Q) {R : Value → World → Prop}
  (hQ : ∀ e s', Q e s' → (e = .ret ∨ e = .normal) ∧ ∀ a' w', Rel n bs w s' a' w' → ∃ v, (results fn a'.tmps).run P w' = .ok v w' ∧ R v w') : Calls P f vals.toArray w (Ret R) := by
 refine calls_of_wp hf hb ?_
 rw [hn]
 refine Go.wp_mono (hW _ _ h0) fun e a' w' ⟨s', hq, hr⟩ => ?_
 obtain ⟨he, hv⟩ := hQ e s' hq
 obtain ⟨v, h1, h2⟩ := hv a' w' hr
 rcases he with rfl | rfl
 ·exact ⟨hr.dfr, v, h1, v, rfl, h2⟩
 ·exact ⟨hr.dfr, v, h1, v, rfl, h2⟩
theorem args0_look : ∀ {xs : List AV} {k t : Nat} {x : AV}, (args0 k xs).lookup t = some x → k ≤ t ∧ xs[t - k]? = some x
 | [], k, t, x, h => by simp [args0] at h
 | y :: ys, k, t, x, h => by
  simp only [args0, List.lookup_cons] at h
  split at h
  ·rename_i e
   have : t = k := by simpa using e
   subst this
   injection h with h; subst h
   exact ⟨Nat.le_refl _, by simp⟩
  ·obtain ⟨h1, h2⟩ := args0_look h
   refine ⟨by omega, ?_⟩
   rw [show t - k = (t - (k + 1)) + 1 by omega]
   simpa using h2
theorem zip_in {gs : List Nat} {G : Hp} {ks : List Nat} {i : Nat} {o : Oj} (h : (i, o) ∈ gs.zip G ++ ks.map (fun i => (i, deadO))) : (∃ q : Nat, gs[q]? = some i ∧ G[q]? = some o) ∨ (i ∈ ks ∧ o = deadO) := by
 rcases List.mem_append.1 h with h | h
 ·obtain ⟨q, hq⟩ := List.mem_iff_getElem?.1 h
  rw [List.getElem?_zip_eq_some] at hq
  exact .inl ⟨q, hq⟩
 ·obtain ⟨j, hj, e⟩ := List.mem_map.1 h
  injection e with e1 e2; subst e1; subst e2
  exact .inr ⟨hj, rfl⟩
theorem HM_0 {mm : Bool} (hT : TabOk P T) (R : S) (rs : List ResultVar) (keepl : List Nat) (n nb : Nat) {fn : Func} {c : Code} {gsP : Prop} {x : AV} {G H' : Hp} (hf : P.funcs[f]? = some fn)
  (hW : ∀ (w : World) (bs : Bs), gsP → W P n bs w c ⟨args0 0 az, ghl 0 (az.take nb), os⟩ (fun e s => (e = .ret ∨ e = .normal) ∧ s = R))
  (hb : fn.body = some c := by rfl) (hn : fn.ntmps = n := by rfl) (hres : fn.results = rs.toArray := by rfl) (hr : retM T R rs keepl nb = some (x, G, H') := by kernel_rfl) (hl : Nat.ble az.length n = true := by kernel_rfl) (hck : chkG az os 0 G = true := by kernel_rfl) :
  HOM mm P f (cmR gsP x G H') az os := by
 intro args H g av up objs gs ks hF hg ρ w vals hp hs ha ps v0 hI
 unfold cmR at hF
 split at hF
 ·rename_i hgl
  simp only [decide_eq_true_eq] at hgl
  injection hF with hF; simp only [Prod.mk.injEq] at hF; obtain ⟨rfl, rfl, rfl, rfl⟩ := hF
  obtain rfl := F2.inv0 ha
  rw [List.append_nil]
  generalize hup : gs.zip (shH H.length G) ++ ks.map (fun i => (i, deadO)) = up
  have hGl : (shH H.length G).length = gs.length := by rw [shH_len, hgl]
  have inUp : ∀ i, i ∈ gs ++ ks → ∃ o', (i, o') ∈ up := fun i hi => by
   rw [← hup]
   rcases List.mem_append.1 hi with hi | hi
   ·obtain ⟨q, hq⟩ := List.mem_iff_getElem?.1 hi
    have hlt : q < (shH H.length G).length := by rw [hGl]; exact (List.getElem?_eq_some_iff.1 hq).1
    exact ⟨(shH H.length G)[q], List.mem_append_left _ (List.mem_iff_getElem?.2 ⟨q, List.getElem?_zip_eq_some.2 ⟨hq, List.getElem?_eq_getElem hlt⟩⟩)⟩
   ·exact ⟨deadO, List.mem_append_right _ (List.mem_map.2 ⟨i, hi, rfl⟩)⟩
  let bs : Bs := ⟨consB ρ H up, fun q => v0.getD q undef, fun _ => False⟩
  obtain ⟨f0, hv⟩ := hI.val (plL ps) (fun j p hj => by rw [Nat.zero_add]; unfold plL; rw [hj])
  have hobj : ∀ (i : Nat) (o : Oj), os[i]? = some o → ∃ p, ps[i]? = some p ∧ plL ps i = p := fun i o ho => by
   have : i < ps.length := by rw [← hI.len]; exact (List.getElem?_eq_some_iff.1 ho).1
   exact ⟨ps[i], List.getElem?_eq_getElem this, by unfold plL; rw [List.getElem?_eq_getElem this]⟩
  have h0 : Rel n bs w ⟨args0 0 az, ghl 0 (az.take nb), os⟩ { tmps := v0.toArray ++ Array.replicate (n - v0.toArray.size) undef, defers := [] } w := by
   have hvl : v0.length ≤ n := by rw [← hv.1]; exact Nat.le_of_ble_eq_true hl
   refine ⟨rfl, by simp; omega, plL ps, ?_, fun t y hy => ?_, fun i o ho => ?_, fun i j a b g hij hx' hy' hox hat hat2 => ?_, fun i o g ho hfs hat => ?_, Kp.refl _ _⟩
   ·intro t y hy
    obtain ⟨_, h1⟩ := args0_look hy
    obtain ⟨v, hv1, hv2⟩ := hv.at (show az[t]? = some y by simpa using h1)
    have hlt := (List.getElem?_eq_some_iff.1 hv1).1
    have : (v0.toArray ++ Array.replicate (n - v0.toArray.size) undef).getD t undef = v := by
     rw [Array.getD_eq_getD_getElem?, Array.getElem?_append_left (by simpa using hlt)]
     simp [hv1]
    rw [this]; exact hv2
   ·obtain ⟨k, rfl, hk⟩ := ghl_look hy
    rw [List.getElem?_take] at hk
    split at hk
    ·obtain ⟨v, hv1, hv2⟩ := hv.at hk
     unfold gvOf
     rw [if_neg (by omega)]
     show avR _ y (v0.getD (1000000 + (0 + k) - 1000000) undef)
     rw [show 1000000 + (0 + k) - 1000000 = k by omega, List.getD_eq_getElem?_getD, hv1]
     exact hv2
    ·cases hk
   ·obtain ⟨p, h1, h2⟩ := hobj i o ho
    show objR _ _ (plL ps i) o
    rw [h2]; exact f0 i o p ho h1
   ·obtain ⟨p, h1, h2⟩ := hobj i a hx'
    obtain ⟨q, h3, h4⟩ := hobj j b hy'
    have hat' : objAt (plL ps i) a g := hat
    have hat2' : objAt (plL ps j) b g := hat2
    rw [h2] at hat'
    rw [h4] at hat2'
    exact hI.sep i j a b p q g hij hx' hy' h1 h3 hox hat' hat2'
   ·obtain ⟨p, h1, h2⟩ := hobj i o ho
    have hat' : objAt (plL ps i) o g := hat
    rw [h2] at hat'
    rcases hI.own i o p g ho h1 hat' with ⟨_, i', o', k1, k2, k3, k4⟩ | ⟨_, k1, _⟩
    ·obtain ⟨o2, k5⟩ := inUp i' k1
     exact .inr (.inl ⟨i', o2, o', k5, k2, k3, k4⟩)
    ·rw [hfs] at k1; cases k1
  have hgP : gsP := by simpa [allP] using hg
  refine calls_WB hf hb hn h0 (hW w bs hgP) ?_
  rintro e s' ⟨he, rfl⟩
  refine ⟨he, fun a' w' hR => ?_⟩
  -- the end
  obtain ⟨_, _, ρ1, hr1⟩ := hR
  unfold retM at hr
  split at hr
  ·rename_i av0 hav
   obtain ⟨v, g1, g2⟩ := resA_ok hT hr1 hres hav
   split at hr
   ·rename_i y gl Hk hkeep
    split at hr
    ·rename_i hc1 hc2
     simp only [Bool.and_eq_true] at hc1 hc2
     obtain ⟨c1, c2, c3, c4, c5, c6, c7⟩ := hc1
     obtain ⟨c8, c9⟩ := hc2
     injection hr with hr; simp only [Prod.mk.injEq] at hr; obtain ⟨rfl, rfl, rfl⟩ := hr
     have hnb : gl.length = nb := Nat.eq_of_beq_eq_true c2
     have hnl : nb ≤ Hk.length := Nat.le_of_ble_eq_true c7
     have hk0 : Rel 1 bs w ⟨[(0, av0)], s'.gl, s'.H⟩ { tmps := #[v], defers := [] } w' := ⟨rfl, rfl, ρ1, fun t z hz => by
      rw [List.lookup_cons] at hz
      split at hz
      ·rename_i e
       have : t = 0 := by simpa using e
       subst this
       injection hz with hz; subst hz; exact g2
      ·simp at hz, hr1.gl, hr1.hp, hr1.sep, hr1.own, hr1.kp⟩
     obtain ⟨_, _, ρR, hr2⟩ := keep_ok hkeep hk0
     have hy : avR ρR y v := hr2.fr 0 y rfl
     have hgs : gs.length = nb := by rw [hgl, dnH_len, List.length_take]; omega
     -- each ghost's object stands where the caller's does
     have hA : ∀ (q i : Nat), gs[q]? = some i → (ρR q).A = (ρ i).A ∧ (∃ ad, (ρ i).A = some ad) := fun q i hq => by
      have hql : q < nb := by rw [← hgs]; exact (List.getElem?_eq_some_iff.1 hq).1
      obtain ⟨k, o, o', h1, h2, h3, _⟩ := hI.gho q i hq
      obtain ⟨u, hu1, hu2⟩ := hv.at h1
      obtain ⟨_, ad, hu3, hu4⟩ := hu2
      have hpk : plL ps k = ρ i := by unfold plL; rw [h3]
      rw [hpk] at hu3
      have hg2 := hr2.gl (1000000 + (0 + q)) _ (isGh_ok c1 q (by rw [hnb]; exact hql))
      unfold gvOf at hg2
      rw [if_neg (by omega)] at hg2
      have hg3 : clR ρR (.pt (0 + q) 0) (v0.getD (1000000 + (0 + q) - 1000000) undef) := hg2
      rw [show 1000000 + (0 + q) - 1000000 = q by omega, List.getD_eq_getElem?_getD, hu1, Nat.zero_add] at hg3
      obtain ⟨_, ad2, hg4, hg5⟩ := hg3
      have z0 : ∀ x : Addr, x.add 0 = x := fun x => by simp [Addr.add]
      have hg6 : u = .pointer (some (ad2.add 0)) := hg5
      rw [hu4, z0, z0] at hg6
      injection hg6 with hg6; injection hg6 with hg6
      exact ⟨by rw [hg4, hu3, hg6], ad, hu3⟩
     let ps2 : List Pl := (List.range (Hk.drop nb).length).map (lowP ρR nb)
     have hat : ∀ (k : Nat), k < (Hk.drop nb).length → ps2[k]? = some (ρR (nb + k)) := fun k hk => by
      have hk2 : k < Hk.length - nb := by simpa using hk
      simp [ps2, hk2]
     have hps : ∀ (k : Nat) (p : Pl), ps2[k]? = some p → p = ρR (nb + k) := fun k p hpk => by
      have hk := (List.getElem?_eq_some_iff.1 hpk).1
      rw [hat k (by simpa [ps2] using hk)] at hpk
      injection hpk with hpk; exact hpk.symm
     have hρ : ∀ i, i < Hk.length - nb → updL ρ H.length ps2 (H.length + i) = lowP ρR nb i := fun i hi => updL_at (hat i (by simpa using hi))
     have hcs : ∀ (j : Nat) (o : Oj), Hk[j]? = some o → o.kd ≠ .dead → ∀ vs, csR ρR o.cs vs → csR (updL ρ H.length ps2) (shX H.length (dnX nb o.cs)) vs := fun j o hj hkd vs hvs => by
      have h1 := dnX_ok (geH_ok c4 j o hj) hvs
      have h2 : (dnH nb Hk)[j]? = some ⟨o.kd, o.e, o.sz, o.n, dnX nb o.cs⟩ := by
       have hlt : j < (dnH nb Hk).length := by rw [dnH_len]; exact (List.getElem?_eq_some_iff.1 hj).1
       obtain ⟨o2, h3, h4⟩ := dnH_at (List.getElem?_eq_getElem hlt)
       rw [hj] at h3; injection h3 with h3; subst h3
       rw [List.getElem?_eq_getElem hlt, h4]
      exact shX_ok hρ (ltH_ok c9 j _ h2 hkd) h1
     have newAt : ∀ {k : Nat} {o : Oj} {p : Pl}, (shH H.length (dnH nb (Hk.drop nb)))[k]? = some o → ps2[k]? = some p → ∃ o0, Hk[nb + k]? = some o0 ∧ o = ⟨o0.kd, o0.e, o0.sz, o0.n, shX H.length (dnX nb o0.cs)⟩ ∧ p = ρR (nb + k) ∧ (∀ b, o0.kd ≠ .gs b) ∧ (o0.kd = .dead ∨ o0.fsh = true) := by
      intro k o p ho hpk
      obtain ⟨o1, h1, rfl⟩ := shH_at ho
      obtain ⟨o0, h2, rfl⟩ := dnH_at h1
      have h3 := newH_ok c6 k o0 h2
      rw [List.getElem?_drop] at h2
      exact ⟨o0, h2, rfl, hps k p hpk, h3⟩
     let foot : Nat → Nat → Prop := fun i g => ∃ q, gs[q]? = some i ∧ (ρR q).foot g
     let pu : Pls := fun i => ⟨(ρ i).A, (ρ i).n, (ρ i).cap, (ρ i).sz, foot i, (ρ i).gv⟩
     have ghAt : ∀ {q i : Nat} {o : Oj}, gs[q]? = some i → (shH H.length (dnH nb (Hk.take nb)))[q]? = some o → ∃ o0, Hk[q]? = some o0 ∧ o = ⟨o0.kd, o0.e, o0.sz, o0.n, shX H.length (dnX nb o0.cs)⟩ ∧ o0.kd = .blk ∧ (∀ g, objAt (pu i) o g → objAt (ρR q) o0 g) ∧ objR (updL ρ H.length ps2) w' (pu i) o := by
      intro q i o hq ho
      obtain ⟨o1, h1, rfl⟩ := shH_at ho
      obtain ⟨o0, h2, rfl⟩ := dnH_at h1
      have h3 := blkH_ok c5 q o0 h2
      have h1' := h1
      rw [List.getElem?_take] at h2
      split at h2
      ·have hro := hr2.hp q o0 h2
       obtain ⟨hA1, _⟩ := hA q i hq
       obtain ⟨k, oo, o', k1, k2, k3, k4, k5, k6⟩ := hI.gho q i hq
       obtain ⟨m1, m2⟩ := chkG_ok hck q k _ oo h1' (by rw [Nat.zero_add]; exact k1) k2
       obtain ⟨o3, k7, k8⟩ := hI.ina i (List.mem_append_left _ (List.mem_of_getElem? hq))
       rw [k4] at k7; injection k7 with k7; subst k7
       have hrd : (ρ i).sz = o'.sz ∧ (ρ i).n = o'.n := by
        have h5 := (hp i o' k4).read (by intro e; unfold Oj.own at k8; rw [e] at k8; cases k8)
        exact ⟨h5.1.1, h5.1.2.1⟩
       have hro2 := objR_re (hcs q o0 h2 (by rw [h3]; simp)) (by rw [shX_len, dnX_len]) (by rw [h3]; simp) (fun x l e => by rw [e]; rfl) hro
       refine ⟨o0, h2, rfl, h3, fun g hg => ?_, ?_⟩
       ·unfold objAt at hg ⊢
        simp only [h3] at hg ⊢
        obtain ⟨ad, hg1, hg2⟩ := hg
        exact ⟨ad, hA1.trans hg1, hg2⟩
       ·unfold objR at hro2 ⊢
        simp only [h3] at hro2 ⊢
        obtain ⟨⟨e1, e2, e3⟩, b, vs, e4, e5, e6⟩ := hro2
        exact ⟨⟨hrd.1.trans (k6.symm.trans m2), hrd.2.trans (k5.symm.trans m1), e3⟩, b, vs, hA1 ▸ e4, e5, e6⟩
      ·cases h2
     have own1 : ∀ {j : Nat} {o : Oj} {g : Nat}, Hk[j]? = some o → o.fsh = true → objAt (ρR j) o g → w.heap.size ≤ g ∨ consB ρ H up g := fun hj hfs hat => (hr2.own _ _ _ hj hfs hat).imp_right (fun h => h.elim id fun h => h.2.elim)
     refine ⟨v, g1, ⟨hr2.kp.os, hr2.kp.tape, hr2.kp.output, hr2.kp.size, hr2.kp.block⟩, ps2, pu, by simp [ps2, shH_len, dnH_len], fun i o' _ => ⟨rfl, rfl, rfl, rfl, rfl⟩, fun k o p ho hpk => ?_, fun i o' hm => ?_, ?_, fun k o p g ho hpk hat2 => ?_, fun i o' g hm hat2 => ?_, fun k l o o' p p' g hkl ho ho' hpk hpk' hown hat1 hat2 => ?_, fun k o p i o' g ho hpk hm hor hat1 hat2 => ?_, fun i o i' o' g hii hm hm' hown hat1 hat2 => ?_⟩
     ·obtain ⟨o0, h1, rfl, rfl, h2, _⟩ := newAt ho hpk
      by_cases hd : o0.kd = .dead
      ·unfold objR; simp only [hd]
      ·exact objR_re (hcs _ o0 h1 hd) (by rw [shX_len, dnX_len]) h2 (fun x l e => by rw [e]; rfl) (hr2.hp _ o0 h1)
     ·rw [← hup] at hm
      rcases zip_in hm with ⟨q, h1, h2⟩ | ⟨_, rfl⟩
      ·obtain ⟨o0, _, _, _, _, h3⟩ := ghAt h1 h2
       exact h3
      ·unfold objR; exact True.intro
     ·exact shA_ok hρ c8 (dnA_ok c3 hy)
     ·obtain ⟨o0, h1, rfl, rfl, _, h2⟩ := newAt ho hpk
      rcases h2 with hd | h2
      ·unfold objAt at hat2; simp only [hd] at hat2
      ·exact own1 h1 h2 hat2
     ·rw [← hup] at hm
      rcases zip_in hm with ⟨q, h1, h2⟩ | ⟨_, rfl⟩
      ·obtain ⟨o0, h3, rfl, h4, h5, _⟩ := ghAt h1 h2
       exact own1 h3 (by unfold Oj.fsh; rw [h4]) (h5 g hat2)
      ·exact hat2.elim
     ·obtain ⟨o0, h1, rfl, rfl, _, _⟩ := newAt ho hpk
      obtain ⟨o1, h2, rfl, rfl, _, _⟩ := newAt ho' hpk'
      exact hr2.sep _ _ o0 o1 g (fun e => hkl (by omega)) h1 h2 hown hat1 hat2
     ·obtain ⟨o0, h1, rfl, rfl, _, _⟩ := newAt ho hpk
      rw [← hup] at hm
      rcases zip_in hm with ⟨q, h2, h3⟩ | ⟨_, rfl⟩
      ·have hql : q < nb := by rw [← hgs]; exact (List.getElem?_eq_some_iff.1 h2).1
       obtain ⟨o1, h4, rfl, h5, h6, _⟩ := ghAt h2 h3
       exact hr2.sep q (nb + k) o1 o0 g (by omega) h4 h1 (by unfold Oj.own; rw [h5]) (h6 g hat2) hat1
      ·exact hat2
     ·rw [← hup] at hm hm'
      rcases zip_in hm with ⟨q, h2, h3⟩ | ⟨_, rfl⟩
      ·rcases zip_in hm' with ⟨q', h2', h3'⟩ | ⟨_, rfl⟩
       ·obtain ⟨o1, h4, rfl, h5, h6, _⟩ := ghAt h2 h3
        obtain ⟨o2, h4', rfl, h5', h6', _⟩ := ghAt h2' h3'
        refine hr2.sep q q' o1 o2 g (fun e => ?_) h4 h4' (by unfold Oj.own; rw [h5]) (h6 g hat1) (h6' g hat2)
        subst e
        rw [h2] at h2'; injection h2' with h2'; exact hii h2'
       ·exact hat2
      ·cases hown
    ·cases hr
   ·cases hr
  ·cases hr
 ·cases hF
def ctM (F : CtA) : CtM := fun args H => F args H [] []
theorem fnokM {F : CtA} {fn : Func} (hf : P.funcs[f]? = some fn) (h : HOM true P f F [] []) (h1 : ((fn.name == "runtime.NumGoroutine") = false) := by kernel_rfl) (h2 : fn.body.isNone = false := by kernel_rfl) : FnMOk P f (ctM F) :=
 ⟨fun args H g av up objs hF hg ρ w vals hp hs ha => h args H g av up objs [] [] hF hg ρ w vals hp hs ha [] [] ⟨fun _ => rfl, rfl, fun _ _ => ⟨fun j o p hj => by simp at hj, F2.nil⟩, fun j o p g hj => by simp at hj, fun i j a b p q g _ hi => by simp at hi, fun q i hq => by simp at hq, fun i hi => by simp at hi, fun i j k hi => by simp at hi⟩, fn, hf, h1, h2⟩
end
end Go.Sx
end
section
namespace Go.Sx
open Go Go.RowKit Go.Ch
inductive Dpo where
 | g0 (i : Nat) (x : Dsh) | ab (i : Nat) (ks : List Nat) | fz (t : Nat) | fzc (i k : Nat) | dn (t : Nat) (e : TypeId) (x : Dsh) | co (c : Co) | wk (i : Nat) | gc (i : Nat) (x : Dsh) | aq (i : Nat) (ks : List Nat) | oc (i : Nat) (x : Dsh) | ps (i : Nat) (ks : List Nat) | ec (i k : Nat) (t : TypeId)
def wkO (o : Oj) : Option Oj := match o.kd with | .gs true => some ⟨.gs false, o.e, o.sz, o.n, o.cs⟩ | .dp true => some ⟨.dp false, o.e, o.sz, o.n, o.cs⟩ | .ro true => some ⟨.ro false, o.e, o.sz, o.n, o.cs⟩ | _ => none
def memN (i : Nat) : List Nat → Bool
 | [] => false
 | j :: l => Nat.beq i j || memN i l
theorem memN_ok {i : Nat} : ∀ {l : List Nat}, memN i l = true → i ∈ l
 | [], h => nomatch h
 | j :: l, h => by
  simp only [memN, Bool.or_eq_true] at h
  rcases h with h | h
  ·exact List.mem_cons.2 (.inl (Nat.eq_of_beq_eq_true h))
  ·exact List.mem_cons.2 (.inr (memN_ok h))
def msk (ks : List Nat) : Nat → Hp → Hp
 | _, [] => []
 | i, o :: l => (match memN i ks with | true => o | false => ⟨.dead, o.e, o.sz, o.n, o.cs⟩) :: msk ks (i + 1) l
theorem msk_at {ks : List Nat} : ∀ {k : Nat} {H : Hp} {i : Nat} {o : Oj}, (msk ks k H)[i]? = some o → o.kd = .dead ∨ ((k + i) ∈ ks ∧ H[i]? = some o)
 | _, [], _, _, h => nomatch h
 | k, x :: l, 0, o, h => by
  simp only [msk, List.getElem?_cons_zero, Option.some.injEq] at h
  split at h
  ·rename_i hm; subst h; exact .inr ⟨memN_ok hm, rfl⟩
  ·subst h; exact .inl rfl
 | k, x :: l, i + 1, o, h => by
  have := msk_at (k := k + 1) (H := l) (i := i) (by simpa [msk] using h)
  rw [Nat.add_right_comm, Nat.add_assoc] at this
  simpa using this
def fshL (H : Hp) : List Nat → Bool
 | [] => true
 | i :: l => (match H[i]? with | some o => o.fsh | none => false) && fshL H l
theorem fshL_ok {H : Hp} : ∀ {l : List Nat}, fshL H l = true → ∀ i ∈ l, ∃ o, H[i]? = some o ∧ o.fsh = true
 | [], _, i, hi => nomatch hi
 | j :: l, h, i, hi => by
  simp only [fshL, Bool.and_eq_true] at h
  rcases List.mem_cons.1 hi with rfl | hi
  ·have h1 := h.1
   split at h1
   ·rename_i o ho; exact ⟨o, ho, h1⟩
   ·cases h1
  ·exact fshL_ok h.2 i hi
structure Gx where
 o : Oj
 j : Nat
 n : Nat
 tl : List Cl
 og : Oj
 fs : Bool
 x : Dsh
 l : List x.T
def ghO (H : Hp) (i : Nat) : Option Gx := match H[i]? with
 | some o => (match o.kd, o.cs with
  | .row, .g j n sz tl => (match H[j]? with
   | some og => (match og.kd, og.cs with
    | .gs fs, .d x l => (match Nat.beq o.sz sz && (Nat.beq sz x.sz && Nat.beq og.sz sz) with | true => some ⟨o, j, n, tl, og, fs, x, l⟩ | false => none)
    | _, _ => none)
   | none => none)
  | _, _ => none)
 | none => none
theorem ghO_ok {H : Hp} {i : Nat} {q : Gx} (h : ghO H i = some q) :
  H[i]? = some q.o ∧ q.o.kd = .row ∧ q.o.cs = .g q.j q.n q.x.sz q.tl ∧ H[q.j]? = some q.og ∧ q.og.kd = .gs q.fs ∧ q.og.cs = .d q.x q.l ∧ q.o.sz = q.x.sz ∧ q.og.sz = q.x.sz := by
 unfold ghO at h
 split at h
 ·rename_i o' ho
  split at h
  ·rename_i j' n' sz' tl' hk hc
   split at h
   ·rename_i og' hog
    split at h
    ·rename_i fs' x' l' hgk hgc
     split at h
     ·rename_i hb
      simp only [Bool.and_eq_true] at hb
      have b1 := Nat.eq_of_beq_eq_true hb.1
      have b2 := Nat.eq_of_beq_eq_true hb.2.1
      have b3 := Nat.eq_of_beq_eq_true hb.2.2
      injection h with h
      subst h
      exact ⟨ho, hk, by rw [hc, b2], hog, hgk, hgc, by show o'.sz = x'.sz; rw [b1, b2], by show og'.sz = x'.sz; rw [b3, b2]⟩
     ·cases h
    ·cases h
   ·cases h
  ·cases h
 ·cases h
structure GhR (w : World) (p : Pl) (x : Dsh) (l : List x.T) : Prop where
 n : p.n = l.length
 lt : ∀ g, p.foot g → g < w.heap.size
 el : ∀ (k : Nat) (y : x.T), gq l k = some y → DR w p.foot p.gv x y (fun g => [(k, g)]) 0
section
variable {P : Program} {T : Tab} {ρ : Pls} {w : World} {bs : Bs} {w0 : World} {s s' : S} {a : Act} {N : Nat}
theorem gh_at (hp : HpR ρ w s.H) {j : Nat} {og : Oj} {fs : Bool} {x : Dsh} {l : List x.T} (h : s.H[j]? = some og) (hk : og.kd = .gs fs) (hc : og.cs = .d x l) : GhR w (ρ j) x l := by
 have hr := hp j og h
 unfold objR at hr
 simp only [hk] at hr
 unfold GsR at hr
 have hr := hr.2
 rw [hc] at hr
 exact ⟨hr.1.2.1.trans hr.1.2.2.1, hr.2.1, hr.2.2⟩
theorem gq_lt {α : Type} {l : List α} {k : Nat} {y : α} (h : gq l k = some y) : k < l.length := (List.getElem?_eq_some_iff.1 h).1
theorem ghc_at {j n sz : Nat} (hsz : 0 < sz) {vs : List Value} (h : F2 (clR ρ) (ghc j n sz) vs) {k g : Nat} (hk : k < n) (hg : g < sz) : vs[k * sz + g]? = some ((ρ j).gv [(k, g)]) := by
 have hq : k * sz + g < n * sz := by
  have : (k + 1) * sz ≤ n * sz := Nat.mul_le_mul_right _ hk
  rw [Nat.add_mul, Nat.one_mul] at this; omega
 have h1 : (ghc j n sz)[k * sz + g]? = some (.gh j [((k * sz + g) / sz, (k * sz + g) % sz)]) := by
  unfold ghc; rw [List.getElem?_map, List.getElem?_range hq]; rfl
 obtain ⟨v, hv, hr⟩ := h.at h1
 rw [hv, show v = _ from hr]
 rw [show (k * sz + g) / sz = k by rw [Nat.mul_comm, Nat.mul_add_div hsz, Nat.div_eq_of_lt hg, Nat.add_zero], show (k * sz + g) % sz = g by rw [Nat.mul_comm, Nat.mul_add_mod, Nat.mod_eq_of_lt hg]]
theorem ghc_of {j n sz : Nat} (hsz : 0 < sz) {vs : List Value} (hl : vs.length = n * sz) (h : ∀ k g, k < n → g < sz → vs[k * sz + g]? = some ((ρ j).gv [(k, g)])) : F2 (clR ρ) (ghc j n sz) vs := by
 refine ⟨by rw [ghc_len, hl], fun q c v hc hv => ?_⟩
 unfold ghc at hc
 rw [List.getElem?_map] at hc
 obtain ⟨z, hz, rfl⟩ := Option.map_eq_some_iff.1 hc
 have hq : q < n * sz := by have := (List.getElem?_eq_some_iff.1 hz).1; simpa using this
 rw [List.getElem?_range hq] at hz
 injection hz with hz; subst hz
 have h2 := h (q / sz) (q % sz) (Nat.div_lt_of_lt_mul (by rw [Nat.mul_comm]; exact hq)) (Nat.mod_lt _ hsz)
 rw [Nat.div_add_mod', hv] at h2
 injection h2
theorem wkO_ok {o x : Oj} (h : wkO o = some x) : x.own = false ∧ x.fsh = false ∧ (∀ p g, objAt p x g → objAt p o g) ∧ ∀ {ρ : Pls} {w : World} {p : Pl}, objR ρ w p o → objR ρ w p x := by
 obtain ⟨kd, e, sz, n, cs⟩ := o
 cases kd with
 | ro b => cases b with
  | true => injection h with h; subst h; exact ⟨rfl, rfl, fun _ _ h => h, fun h => h⟩
  | false => cases h
 | dp b => cases b with
  | true => injection h with h; subst h; exact ⟨rfl, rfl, fun _ _ h => h, fun h => h⟩
  | false => cases h
 | gs b => cases b with
  | true => injection h with h; subst h; exact ⟨rfl, rfl, fun _ _ h => h, fun h => h⟩
  | false => cases h
 | _ => cases h
theorem RelA.wk (r3 : RelA ρ bs w0 s a w) {i : Nat} {o x : Oj} (ho : s.H[i]? = some o) (hx : wkO o = some x) : RelA ρ bs w0 ⟨s.fr, s.gl, s.H.set i x⟩ a w := by
 obtain ⟨x1, x2, x3, x4⟩ := wkO_ok hx
 have at_ : ∀ (j : Nat) (z : Oj), (s.H.set i x)[j]? = some z → (j = i ∧ z = x) ∨ s.H[j]? = some z := by
  intro j z hz
  rw [List.getElem?_set] at hz
  split at hz
  ·rename_i e
   split at hz
   ·injection hz with hz; exact .inl ⟨e.symm, hz.symm⟩
   ·cases hz
  ·exact .inr hz
 refine ⟨r3.fr, r3.gl, fun j z hz => ?_, fun j k y z g hjk hy hz hyo hat hat2 => ?_, fun j z g hz hzo hat => ?_, r3.kp⟩
 ·rcases at_ j z hz with ⟨rfl, rfl⟩ | h1
  ·exact x4 (r3.hp j o ho)
  ·exact r3.hp j z h1
 ·rcases at_ j y hy with ⟨rfl, rfl⟩ | h1
  ·rw [x1] at hyo; cases hyo
  ·rcases at_ k z hz with ⟨rfl, rfl⟩ | h2
   ·exact r3.sep j k y o g hjk h1 ho hyo hat (x3 _ _ hat2)
   ·exact r3.sep j k y z g hjk h1 h2 hyo hat hat2
 ·rcases at_ j z hz with ⟨rfl, rfl⟩ | h1
  ·rw [x2] at hzo; cases hzo
  ·exact r3.own j z g h1 hzo hat
def ownB (H : Hp) (ks : List Nat) (e : TypeId) (c : Cl) : Option (List UInt8) := match c with
 | .nils => some []
 | .wh r => (match memN r ks, H[r]? with
  | true, some o => (match o.kd, Nat.beq o.e e, o.sz, o.cs with | .row, true, 1, .b l => some l | _, _, _, _ => none)
  | _, _ => none)
 | _ => none
def psE1 (H : Hp) (ks : List Nat) (e : TypeId) (tl : List Cl) : Option (List UInt8) := match tl with
 | [c] => ownB H ks e c
 | _ => none
def u8C (c : Cl) : Option UInt8 := match c with | .s (.u8 m) => some m | _ => none
def psE2 (H : Hp) (ks : List Nat) (e : TypeId) (tl : List Cl) : Option (UInt8 × List UInt8) := match tl with
 | [d, c] => (match u8C d, ownB H ks e c with | some m, some l => some (m, l) | _, _ => none)
 | _ => none
def psE (H : Hp) (ks : List Nat) (tl : List Cl) : (x : Dsh) → Option x.T
 | .by e => psE1 H ks e tl
 | .pr .u8 (.by e) => psE2 H ks e tl
 | _ => none
structure Ox where
 o : Oj
 j : Nat
 n : Nat
 tl : List Cl
 og : Oj
 x : Dsh
 l : List x.T
def ghW (H : Hp) (i : Nat) : Option Ox := match H[i]? with
 | some o => (match o.kd, o.cs with
  | .row, .g j n sz tl => (match H[j]? with
   | some og => (match og.kd, og.cs with
    | .og, .d x l => (match Nat.beq o.sz sz && (Nat.beq sz x.sz && !Nat.beq i j) with | true => some ⟨o, j, n, tl, og, x, l⟩ | false => none)
    | _, _ => none)
   | none => none)
  | _, _ => none)
 | none => none
theorem ghW_ok {H : Hp} {i : Nat} {q : Ox} (h : ghW H i = some q) :
  H[i]? = some q.o ∧ q.o.kd = .row ∧ q.o.cs = .g q.j q.n q.x.sz q.tl ∧ H[q.j]? = some q.og ∧ q.og.kd = .og ∧ q.og.cs = .d q.x q.l ∧ q.o.sz = q.x.sz ∧ i ≠ q.j := by
 unfold ghW at h
 split at h
 ·rename_i o' ho
  split at h
  ·rename_i j' n' sz' tl' hk hc
   split at h
   ·rename_i og' hog
    split at h
    ·rename_i x' l' hgk hgc
     split at h
     ·rename_i hb
      simp only [Bool.and_eq_true, Bool.not_eq_true'] at hb
      have b1 := Nat.eq_of_beq_eq_true hb.1
      have b2 := Nat.eq_of_beq_eq_true hb.2.1
      injection h with h
      subst h
      exact ⟨ho, hk, by rw [hc, b2], hog, hgk, hgc, by show o'.sz = x'.sz; rw [b1, b2], fun e => by have := hb.2.2; rw [show i = j' from e, Nat.beq_refl] at this; cases this⟩
     ·cases h
    ·cases h
   ·cases h
  ·cases h
 ·cases h
def dp1 (d : Dpo) (s : S) : Option (List (Nat × Nat) × S) := match d with
 | .wk i => (match s.H[i]? with
  | some o => (match wkO o with | some x => some ([], ⟨s.fr, s.gl, s.H.set i x⟩) | none => none)
  | none => none)
 | .g0 i x => (match s.H[i]?, okS s with
  | some o, true => (match o.kd, emptyX o.cs, Nat.beq o.sz x.sz with
   | .row, true, true => some ([], ⟨s.fr, s.gl, (s.H ++ [(⟨.gs true, o.e, o.sz, 0, .d x []⟩ : Oj)]).set i { o with cs := .g s.H.length 0 o.sz [] }⟩)
   | _, _, _ => none)
  | _, _ => none)
 | .gc i x => (match s.H[i]?, okS s with
  | some o, true => (match o.kd, o.cs, Nat.beq o.sz x.sz with
   | .row, .c l, true => some ([], ⟨s.fr, s.gl, (s.H ++ [(⟨.gs true, o.e, o.sz, 0, .d x []⟩ : Oj)]).set i { o with cs := .g s.H.length 0 o.sz l }⟩)
   | _, _, _ => none)
  | _, _ => none)
 | .ec i k t => (match live s.H i with
  | some o => (match o.cs with
   | .c l => (match l[k]? with
    | some (.s (.v v)) => (match v with | .nilIface => some ([], ⟨s.fr, s.gl, s.H.set i { o with cs := .c (l.set k (.s (.er t .i64 none))) }⟩) | _ => none)
    | _ => none)
   | _ => none)
  | none => none)
 | .oc i x => (match s.H[i]?, okS s with
  | some o, true => (match o.kd, o.cs, Nat.beq o.sz x.sz with
   | .row, .c l, true => some ([], ⟨s.fr, s.gl, (s.H ++ [(⟨.og, o.e, o.sz, 0, .d x []⟩ : Oj)]).set i { o with cs := .g s.H.length 0 o.sz l }⟩)
   | _, _, _ => none)
  | _, _ => none)
 | .ps i ks => (match ghW s.H i, okS s with
  | some q, true => (match psE s.H ks q.tl q.x, memN i ks, memN q.j ks with
   | some y, false, false => some ([(q.n, q.l.length)], ⟨s.fr, s.gl, (killH (killO ks s.H) q.j ++ [(⟨.og, q.og.e, q.og.sz, (q.l ++ [y]).length, .d q.x (q.l ++ [y])⟩ : Oj)]).set i ⟨.row, q.o.e, q.o.sz, (q.l ++ [y]).length, .g s.H.length (q.l ++ [y]).length q.o.sz []⟩⟩)
   | _, _, _ => none)
  | _, _ => none)
 | .aq i ks => (match ghO s.H i, okS s, memN i ks with
  | some q, true, false => (match dcs (msk ks 0 s.H) q.x (q.tl.take q.x.sz), Nat.ble q.x.sz q.tl.length with
   | some y, true => some ([(q.n, q.l.length)], ⟨s.fr, s.gl, (killO ks s.H ++ [(⟨.gs (q.fs && fshL s.H ks), q.og.e, q.o.sz, q.l.length + 1, .d q.x (q.l ++ [y])⟩ : Oj)]).set i { q.o with cs := .g s.H.length (q.l.length + 1) q.o.sz (q.tl.drop q.x.sz) }⟩)
   | _, _ => none)
  | _, _, _ => none)
 | .ab i ks => (match ghO s.H i, okS s, memN i ks with
  | some q, true, false => (match dcs (msk ks 0 s.H) q.x q.tl, Nat.beq q.tl.length q.x.sz with
   | some y, true => some ([(q.n, q.l.length)], ⟨s.fr, s.gl, (killO ks s.H ++ [(⟨.gs (q.fs && fshL s.H ks), q.og.e, q.o.sz, (q.l ++ [y]).length, .d q.x (q.l ++ [y])⟩ : Oj)]).set i ⟨q.o.kd, q.o.e, q.o.sz, (q.l ++ [y]).length, .g s.H.length (q.l ++ [y]).length q.o.sz []⟩⟩)
   | _, _ => none)
  | _, _, _ => none)
 | .fz t => (match s.fr.lookup t with
  | some (.c (.wh i)) => (match ghO s.H i, okS s with
   | some q, true => (match q.tl with
    | [] => some ([(q.n, q.l.length)], ⟨putF s.fr (some t) (.c (.wh s.H.length)), s.gl, killH s.H i ++ [⟨.dp q.fs, q.o.e, q.o.sz, q.l.length, .d q.x q.l⟩]⟩)
    | _ => none)
   | _, _ => none)
  | _ => none)
 | .fzc i k => (match live s.H i, okS s with
  | some o, true => (match o.cs with
   | .g j n sz tl => (match tl[k]? with
    | some (.wh r) => (match ghO s.H r, Nat.beq i r with
     | some q, false => (match q.tl with
      | [] => some ([(q.n, q.l.length)], ⟨s.fr, s.gl, (killH s.H r ++ [(⟨.dp q.fs, q.o.e, q.o.sz, q.l.length, .d q.x q.l⟩ : Oj)]).set i { o with cs := .g j n sz (tl.set k (.wh s.H.length)) }⟩)
      | _ => none)
     | _, _ => none)
    | _ => none)
   | _ => none)
  | _, _ => none)
 | .co c => (match co1 c s with | some s1 => some ([], s1) | none => none)
 | .dn t e x => (match s.fr.lookup t, okS s with
  | some (.c .nils), true => some ([], ⟨putF s.fr (some t) (.c (.wh s.H.length)), s.gl, s.H ++ [⟨.dp true, e, x.sz, 0, .d x []⟩]⟩)
  | _, _ => none)
theorem RelA.recsO (r3 : RelA ρ bs w0 s a w) {i : Nat} {o : Oj} {cs : Cs} (ho : s.H[i]? = some o) (hr : objR ρ w (ρ i) { o with cs := cs }) : RelA ρ bs w0 ⟨s.fr, s.gl, s.H.set i { o with cs := cs }⟩ a w := by
 have at_ : ∀ (j : Nat) (x : Oj), (s.H.set i { o with cs := cs })[j]? = some x → ∃ y, s.H[j]? = some y ∧ (x = y ∨ (j = i ∧ y = o ∧ x = { o with cs := cs })) := by
  intro j x hx
  rw [List.getElem?_set] at hx
  split at hx
  ·rename_i e
   subst e
   split at hx
   ·injection hx with hx; exact ⟨o, ho, .inr ⟨rfl, rfl, hx.symm⟩⟩
   ·cases hx
  ·exact ⟨x, hx, .inl rfl⟩
 refine ⟨r3.fr, r3.gl, fun j x hx => ?_, fun j k x y g hjk hx hy hox hat hat2 => ?_, fun j x g hx hox hat => ?_, r3.kp⟩
 ·obtain ⟨y, hy, rfl | ⟨rfl, rfl, rfl⟩⟩ := at_ j x hx
  ·exact r3.hp j x hy
  ·exact hr
 ·obtain ⟨x', hx', ex⟩ := at_ j x hx
  obtain ⟨y', hy', ey⟩ := at_ k y hy
  refine r3.sep j k x' y' g hjk hx' hy' ?_ ?_ ?_
  ·rcases ex with rfl | ⟨_, rfl, rfl⟩ <;> exact hox
  ·rcases ex with rfl | ⟨_, rfl, rfl⟩ <;> exact hat
  ·rcases ey with rfl | ⟨_, rfl, rfl⟩ <;> exact hat2
 ·obtain ⟨x', hx', ex⟩ := at_ j x hx
  rcases ex with rfl | ⟨_, rfl, rfl⟩
  ·exact r3.own j _ g hx' hox hat
  ·exact r3.own j x' g hx' hox hat
theorem killO_ne {i : Nat} : ∀ {ks : List Nat} {H : Hp}, i ∉ ks → (killO ks H)[i]? = H[i]?
 | [], _, _ => rfl
 | k :: ks, H, h => by
  simp only [List.mem_cons, not_or] at h
  simp only [killO]
  rw [killO_ne h.2]
  split
  ·split
   ·unfold killH
    split
    ·rw [List.getElem?_set_ne (fun e => h.1 e.symm)]
    ·rfl
   ·rfl
  ·rfl
theorem memN_no {i : Nat} : ∀ {l : List Nat}, memN i l = false → i ∉ l
 | [], _, hm => nomatch hm
 | j :: l, h, hm => by
  simp only [memN, Bool.or_eq_false_iff] at h
  rcases List.mem_cons.1 hm with rfl | hm
  ·rw [Nat.beq_refl] at h; cases h.1
  ·exact memN_no h.2 hm
theorem gq_app {α : Type} {l : List α} {y z : α} {k : Nat} (h : gq (l ++ [y]) k = some z) : (k < l.length ∧ gq l k = some z) ∨ (k = l.length ∧ z = y) := by
 unfold gq at h ⊢
 by_cases hk : k < l.length
 ·rw [List.getElem?_append_left hk] at h; exact .inl ⟨hk, h⟩
 ·rw [List.getElem?_append_right (by omega)] at h
  have : k - l.length = 0 := by have := (List.getElem?_eq_some_iff.1 h).1; simp at this; omega
  rw [this] at h
  injection h with h
  exact .inr ⟨by omega, h.symm⟩
theorem row_parts {p : Pl} {o : Oj} (h : objR ρ w p o) (hk : o.kd = .row) : (p.sz = o.sz ∧ p.n = o.n ∧ o.cs.cl.length = o.n * o.sz) ∧ ∃ vs, csR ρ o.cs vs ∧ w.ownsRow 0 o.e o.sz (.slice p.A p.n p.cap) p.n vs := by
 unfold objR at h; simp only [hk] at h; exact h
theorem row_of {p : Pl} {o : Oj} (hk : o.kd = .row) (h : (p.sz = o.sz ∧ p.n = o.n ∧ o.cs.cl.length = o.n * o.sz) ∧ ∃ vs, csR ρ o.cs vs ∧ w.ownsRow 0 o.e o.sz (.slice p.A p.n p.cap) p.n vs) : objR ρ w p o := by
 unfold objR; simp only [hk]; exact h
theorem row_own {o : Oj} (hk : o.kd = .row) : o.own = true := by unfold Oj.own; rw [hk]
theorem row_wr {o : Oj} (hk : o.kd = .row) : o.wr = true := by unfold Oj.wr; rw [hk]
theorem RelA.freeze (r3 : RelA ρ bs w0 s a w) (hs : okS s = true) {i : Nat} {q : Gx} (h : ghO s.H i = some q) (ht : q.tl = []) (hn : q.n = q.l.length) (fr : Fr)
  (hfr : ∀ p : Pl, p.A = (ρ i).A → p.n = (ρ i).n → p.cap = (ρ i).cap → FrR (upd ρ s.H.length p) fr a) :
  ∃ p : Pl, p.A = (ρ i).A ∧ p.n = (ρ i).n ∧ p.cap = (ρ i).cap ∧ RelA (upd ρ s.H.length p) bs w0 ⟨fr, s.gl, killH s.H i ++ [⟨.dp q.fs, q.o.e, q.o.sz, q.l.length, .d q.x q.l⟩]⟩ a w := by
 obtain ⟨o, j, n, tl, og, fs, x, l⟩ := q
 obtain ⟨h1, h2, h3, h4, h5, h6, h7, h8⟩ := ghO_ok h
 simp only at h1 h2 h3 h4 h5 h6 h7 h8 ht hn ⊢
 subst ht; subst hn
 have hr := r3.hp i o h1
 obtain ⟨⟨e1, e2, e3⟩, vs, hc, hrow⟩ := row_parts hr h2
 obtain ⟨g1, g2, g3⟩ := hr.slc (.inr (.inl h2))
 obtain ⟨_, vs', hc', hAt⟩ := hr.read (by rw [h2]; simp)
 have hG := gh_at r3.hp h4 h5 h6
 have hsz := x.sz_pos
 rw [h3] at e3 hc hc'
 have hln : o.n = l.length := by
  have : (Cs.g j l.length x.sz []).cl.length = l.length * x.sz := by show (ghc _ _ _ ++ []).length = _; rw [List.append_nil, ghc_len]
  rw [this, h7] at e3
  exact Nat.eq_of_mul_eq_mul_right hsz e3.symm
 have hcv : F2 (clR ρ) (ghc j l.length x.sz) vs' := by
  have : F2 (clR ρ) (ghc j l.length x.sz ++ []) vs' := hc'
  rwa [List.append_nil] at this
 let gv' : Way → Value := fun p => match p with | [] => .slice (ρ i).A l.length (ρ i).cap | p => (ρ j).gv p
 have hgv : ∀ (u : Way) (k g : Nat), gv' (u ++ [(k, g)]) = (ρ j).gv (u ++ [(k, g)]) := fun u k g => by cases u <;> rfl
 let F' : Nat → Prop := fun g => (ρ j).foot g ∨ ∃ ad, (ρ i).A = some ad ∧ ad.block = g
 have hspine : ∀ ad, (ρ i).A = some ad → objAt (ρ i) o ad.block := fun ad hA => objAt_own (row_wr h2) hA
 have hoj : ∀ (j' : Nat) (x' : Oj) (g : Nat), (killH s.H i)[j']? = some x' → x'.own = true → objAt (ρ j') x' g → ¬ F' g := by
  intro j' x' g hx' hox hat hF
  rcases killH_at hx' with hd | ⟨hne, hx1⟩
  ·unfold Oj.own at hox; rw [hd] at hox; cases hox
  ·rcases hF with hF | ⟨ad, hA, rfl⟩
   ·refine r3.sep j' j x' og g ?_ hx1 h4 hox hat (by unfold objAt; simp only [h5]; exact hF)
    intro e; subst e; rw [h4] at hx1; injection hx1 with hx1; subst hx1
    unfold Oj.own at hox; rw [h5] at hox; cases hox
   ·exact r3.sep i j' o x' _ (fun e => hne e.symm) h1 hx1 (row_own h2) (hspine ad hA) hat
 refine ⟨⟨(ρ i).A, l.length, (ρ i).cap, x.sz, F', gv'⟩, rfl, by rw [e2, hln], rfl, r3.new hs rfl (killH_len s.H i) (fun j' x' hx' => ?_) r3.kp ?_ (fun _ j' x' g hx' hxk hat hor hat2 => ?_) (fun hfs g hat => ?_) fr a (hfr _ rfl (by rw [e2, hln]) rfl)⟩
 ·rcases killH_at hx' with hd | ⟨_, hx1⟩
  ·exact .inl hd
  ·exact .inr ⟨hx1, r3.hp j' x' hx1⟩
 ·refine (show DpR w (⟨(ρ i).A, l.length, (ρ i).cap, x.sz, F', gv'⟩ : Pl) (⟨.dp fs, o.e, o.sz, l.length, .d x l⟩ : Oj) from ?_)
  refine ⟨⟨h7.symm, rfl, rfl, h7⟩, rfl, ?_, (ρ i).A, (ρ i).cap, rfl, by rw [← hln, ← e2]; exact g1, g2, g3, fun ad ha _ => .inr ⟨ad, ha, rfl⟩, fun k y hy => ⟨fun ad ha g hg => ?_, ?_⟩⟩
  ·rintro g (hF | ⟨ad, hA, rfl⟩)
   ·exact hG.lt g hF
   ·exact objAt_lt hr (hspine ad hA)
  ·have hk := gq_lt hy
   have e5 := ghc_at hsz hcv hk hg
   rw [hAt ad ha _ _ e5]
  ·exact DR.map x y _ _ 0 (fun u g _ _ => hgv u k g) (DR.foot (fun g hg => .inl hg) x y _ 0 (hG.el k y hy))
 ·rcases hor with hox | hox
  ·exact hoj j' x' g hx' hox hat2 hat
  ·exact absurd hox Bool.false_ne_true
 ·have hfs' : fs = true := by unfold Oj.fsh at hfs; cases fs with | true => rfl | false => cases hfs
  subst hfs'
  rcases (show F' g from hat) with hF | ⟨ad, hA, rfl⟩
  ·exact own3 (r3.own j og g h4 (by unfold Oj.fsh; rw [h5]) (by unfold objAt; simp only [h5]; exact hF)) rfl
  ·exact two3 (r3.own.o h1 (row_own h2) (hspine ad hA))
theorem RelA.absorb0 (r3 : RelA ρ bs w0 s a w) (hs : okS s = true) {i : Nat} {q : Gx} (h : ghO s.H i = some q) {ks : List Nat} (hik : i ∉ ks) {y : q.x.T} (hy : dcs (msk ks 0 s.H) q.x q.tl = some y) (htl : q.tl.length = q.x.sz) (hn : q.n = q.l.length) :
  ∃ ρ', RelA ρ' bs w0 ⟨s.fr, s.gl, (killO ks s.H ++ [(⟨.gs (q.fs && fshL s.H ks), q.og.e, q.o.sz, q.l.length + 1, .d q.x (q.l ++ [y])⟩ : Oj)]).set i { q.o with cs := .g s.H.length (q.l.length + 1) q.o.sz [] }⟩ a w := by
 obtain ⟨o, j, n, tl, og, fs, x, l⟩ := q
 obtain ⟨h1, h2, h3, h4, h5, h6, h7, h8⟩ := ghO_ok h
 simp only at h1 h2 h3 h4 h5 h6 h7 h8 hn htl hy y ⊢
 subst hn
 have hr := r3.hp i o h1
 obtain ⟨⟨e1, e2, e3⟩, vs, hc, hrow⟩ := row_parts hr h2
 have hG := gh_at r3.hp h4 h5 h6
 have hsz := x.sz_pos
 rw [h3] at e3 hc
 have hcl : (Cs.g j l.length x.sz tl).cl.length = l.length * x.sz + x.sz := by show (ghc _ _ _ ++ tl).length = _; rw [List.length_append, ghc_len, htl]
 have hlen : o.n * x.sz = (l.length + 1) * x.sz := by rw [hcl, h7] at e3; rw [Nat.add_mul, Nat.one_mul]; exact e3.symm
 have hc2 : F2 (clR ρ) (ghc j l.length x.sz ++ tl) vs := hc
 have hv1 := hc2.take (l.length * x.sz)
 have hv2 := hc2.drop (l.length * x.sz)
 rw [List.take_left' (ghc_len _ _ _)] at hv1
 rw [List.drop_left' (ghc_len _ _ _)] at hv2
 have hvl : vs.length = (l.length + 1) * x.sz := by rw [hc.len, hcl, Nat.add_mul, Nat.one_mul]
 -- the element is read among what may be looked at
 have hpm : HpR ρ w (msk ks 0 s.H) := fun k z hz => by
  rcases msk_at hz with hd | ⟨_, hz1⟩
  ·unfold objR; simp only [hd]
  ·exact r3.hp k z hz1
 obtain ⟨F, gv, f1, f2, f3⟩ := dcs_ok hpm x tl y hy _ hv2
 have f2' : ∀ g, F g → ∃ k z, k ∈ ks ∧ s.H[k]? = some z ∧ objAt (ρ k) z g := fun g hg => by
  obtain ⟨k, z, hz, hat⟩ := f2 g hg
  rcases msk_at hz with hd | ⟨hk, hz1⟩
  ·unfold objAt at hat; simp only [hd] at hat
  ·rw [Nat.zero_add] at hk; exact ⟨k, z, hk, hz1, hat⟩
 let gv' : Way → Value := fun p => match p.getLast? with | none => undef | some (k, g) => if k < l.length then (ρ j).gv p else gv (p.dropLast ++ [(0, g)])
 have hgv1 : ∀ (u : Way) (k g : Nat), k < l.length → gv' (u ++ [(k, g)]) = (ρ j).gv (u ++ [(k, g)]) := fun u k g hk => by
  show (match (u ++ [(k, g)]).getLast? with | none => _ | some (k, g) => _) = _
  rw [List.getLast?_append]; simp only [List.getLast?_singleton, Option.some_or]; rw [if_pos hk]
 have hgv2 : ∀ (u : Way) (g : Nat), gv' (u ++ [(l.length, g)]) = gv (u ++ [(0, g)]) := fun u g => by
  show (match (u ++ [(l.length, g)]).getLast? with | none => _ | some (k, g) => _) = _
  rw [List.getLast?_append, List.dropLast_concat]; simp only [List.getLast?_singleton, Option.some_or]; rw [if_neg (Nat.lt_irrefl _)]
 let F' : Nat → Prop := fun g => (ρ j).foot g ∨ F g
 let p' : Pl := ⟨none, l.length + 1, 0, x.sz, F', gv'⟩
 have hob : objR ρ w p' (⟨.gs (fs && fshL s.H ks), og.e, o.sz, l.length + 1, .d x (l ++ [y])⟩ : Oj) := by
  refine (show GsR w p' (⟨.gs (fs && fshL s.H ks), og.e, o.sz, l.length + 1, .d x (l ++ [y])⟩ : Oj) from ⟨rfl, ⟨h7.symm, rfl, by simp, h7⟩, ?_, fun k z hz => ?_⟩)
  ·rintro g (hg | hg)
   ·exact hG.lt g hg
   ·exact atB_lt hpm g (f2 g hg)
  ·rcases gq_app hz with ⟨hk, hz⟩ | ⟨rfl, rfl⟩
   ·exact DR.map x z _ _ 0 (fun u g _ _ => hgv1 u k g hk) (DR.foot (fun g hg => .inl hg) x z _ 0 (hG.el k z hz))
   ·exact DR.map x _ (fun g => [(0, g)]) (fun g => [(l.length, g)]) 0 (fun u g _ _ => hgv2 u g) (DR.foot (fun g hg => .inr hg) x _ _ 0 f3)
 have r4 := r3.new hs (o := ⟨.gs (fs && fshL s.H ks), og.e, o.sz, l.length + 1, .d x (l ++ [y])⟩) rfl (killO_len ks s.H) (fun j' x' hx' => by
   rcases killO_at hx' with hd | ⟨hx1, _⟩
   ·exact .inl hd
   ·exact .inr ⟨hx1, r3.hp j' x' hx1⟩) r3.kp hob (fun _ j' x' g hx' hxk hat hor hat2 => by
   rcases hor with hox | hox
   ·rcases killO_at hx' with hd | ⟨hx1, hnk⟩
    ·exact hxk hd
    ·rcases (show F' g from hat) with hF | hF
     ·refine r3.sep j' j x' og g ?_ hx1 h4 hox hat2 (by unfold objAt; simp only [h5]; exact hF)
      intro e; subst e; rw [h4] at hx1; injection hx1 with hx1; subst hx1
      unfold Oj.own at hox; rw [h5] at hox; cases hox
     ·obtain ⟨k, z, hk, hz, hat3⟩ := f2' g hF
      refine r3.sep j' k x' z g ?_ hx1 hz hox hat2 hat3
      intro e; subst e; exact hnk hox hk
   ·cases hox) (fun hfs g hat => by
   have hb : (fs && fshL s.H ks) = true := by
    unfold Oj.fsh at hfs
    cases hb : (fs && fshL s.H ks) with
    | true => rfl
    | false => rw [hb] at hfs; cases hfs
   simp only [Bool.and_eq_true] at hb
   rcases (show F' g from hat) with hF | hF
   ·exact own3 (r3.own j og g h4 (by unfold Oj.fsh; rw [h5, hb.1]) (by unfold objAt; simp only [h5]; exact hF)) rfl
   ·obtain ⟨k, z, hk, hz, hat3⟩ := f2' g hF
    obtain ⟨z', hz', hf⟩ := fshL_ok hb.2 k hk
    rw [hz] at hz'; injection hz' with hz'; subst hz'
    exact own3 (r3.own k z g hz hf hat3) rfl) s.fr a (fun t x hx => ltA_ok upd_lt (ltF_ok (okS_ok hs).1 t x hx) (r3.fr t x hx))
 have hi : i < s.H.length := (List.getElem?_eq_some_iff.1 h1).1
 refine ⟨_, r4.recsO (i := i) (o := o) (cs := .g s.H.length (l.length + 1) o.sz []) (by show (killO ks s.H ++ [_])[i]? = some o; rw [List.getElem?_append_left (by rw [killO_len]; exact hi), killO_ne hik]; exact h1) ?_⟩
 rw [upd_lt i hi]
 refine row_of h2 ⟨⟨e1, e2, ?_⟩, vs, ?_, hrow⟩
 ·show (ghc _ _ _ ++ []).length = o.n * o.sz
  rw [List.append_nil, ghc_len, h7, hlen]
 ·show F2 _ (ghc _ _ _ ++ []) vs
  rw [List.append_nil, h7]
  refine ghc_of hsz hvl (fun k g hk hg => ?_)
  rw [upd_at]
  show _ = some (gv' ([] ++ [(k, g)]))
  by_cases hkl : k < l.length
  ·rw [hgv1 [] k g hkl, List.nil_append, ← ghc_at hsz hv1 hkl hg, List.getElem?_take, if_pos]
   have : (k + 1) * x.sz ≤ l.length * x.sz := Nat.mul_le_mul_right _ hkl
   rw [Nat.add_mul, Nat.one_mul] at this; omega
  ·have : k = l.length := by omega
   subst this
   rw [hgv2 [] g, List.nil_append, f1 g hg, List.getElem?_drop]
theorem ltL_drop {m : Nat} : ∀ {l : List Cl}, ltL m l = true → ∀ n : Nat, ltL m (l.drop n) = true
 | [], h, n => by rw [List.drop_nil]; exact h
 | x :: l, h, 0 => h
 | x :: l, h, n + 1 => by
  simp only [ltL, Bool.and_eq_true] at h
  exact ltL_drop h.2 n
theorem RelA.absorb1 (r3 : RelA ρ bs w0 s a w) (hs : okS s = true) {i : Nat} {q : Gx} (h : ghO s.H i = some q) {ks : List Nat} (hik : i ∉ ks) {y : q.x.T} (hy : dcs (msk ks 0 s.H) q.x (q.tl.take q.x.sz) = some y) (htl : q.x.sz ≤ q.tl.length) (hn : q.n = q.l.length) :
  ∃ ρ', RelA ρ' bs w0 ⟨s.fr, s.gl, (killO ks s.H ++ [(⟨.gs (q.fs && fshL s.H ks), q.og.e, q.o.sz, q.l.length + 1, .d q.x (q.l ++ [y])⟩ : Oj)]).set i { q.o with cs := .g s.H.length (q.l.length + 1) q.o.sz (q.tl.drop q.x.sz) }⟩ a w := by
 obtain ⟨o, j, n, tl, og, fs, x, l⟩ := q
 obtain ⟨h1, h2, h3, h4, h5, h6, h7, h8⟩ := ghO_ok h
 simp only at h1 h2 h3 h4 h5 h6 h7 h8 hn htl hy y ⊢
 subst hn
 have hr := r3.hp i o h1
 obtain ⟨⟨e1, e2, e3⟩, vs, hc, hrow⟩ := row_parts hr h2
 have hG := gh_at r3.hp h4 h5 h6
 have hsz := x.sz_pos
 rw [h3] at e3 hc
 have hcl : (Cs.g j l.length x.sz tl).cl.length = l.length * x.sz + tl.length := by show (ghc _ _ _ ++ tl).length = _; rw [List.length_append, ghc_len]
 have hlen : o.n * x.sz = l.length * x.sz + tl.length := by rw [hcl, h7] at e3; exact e3.symm
 have hq1 : (l.length + 1) * x.sz = l.length * x.sz + x.sz := by rw [Nat.add_mul, Nat.one_mul]
 have hc2 : F2 (clR ρ) (ghc j l.length x.sz ++ tl) vs := hc
 have hv1 := hc2.take (l.length * x.sz)
 have hv2 := hc2.drop (l.length * x.sz)
 rw [List.take_left' (ghc_len _ _ _)] at hv1
 rw [List.drop_left' (ghc_len _ _ _)] at hv2
 have hvl : vs.length = l.length * x.sz + tl.length := by rw [hc.len, hcl]
 have hv3 := hv2.take x.sz
 have hv4 := hv2.drop x.sz
 -- the element is read among what may be looked at
 have hpm : HpR ρ w (msk ks 0 s.H) := fun k z hz => by
  rcases msk_at hz with hd | ⟨_, hz1⟩
  ·unfold objR; simp only [hd]
  ·exact r3.hp k z hz1
 obtain ⟨F, gv, f1, f2, f3⟩ := dcs_ok hpm x (tl.take x.sz) y hy _ hv3
 have f2' : ∀ g, F g → ∃ k z, k ∈ ks ∧ s.H[k]? = some z ∧ objAt (ρ k) z g := fun g hg => by
  obtain ⟨k, z, hz, hat⟩ := f2 g hg
  rcases msk_at hz with hd | ⟨hk, hz1⟩
  ·unfold objAt at hat; simp only [hd] at hat
  ·rw [Nat.zero_add] at hk; exact ⟨k, z, hk, hz1, hat⟩
 let gv' : Way → Value := fun p => match p.getLast? with | none => undef | some (k, g) => if k < l.length then (ρ j).gv p else gv (p.dropLast ++ [(0, g)])
 have hgv1 : ∀ (u : Way) (k g : Nat), k < l.length → gv' (u ++ [(k, g)]) = (ρ j).gv (u ++ [(k, g)]) := fun u k g hk => by
  show (match (u ++ [(k, g)]).getLast? with | none => _ | some (k, g) => _) = _
  rw [List.getLast?_append]; simp only [List.getLast?_singleton, Option.some_or]; rw [if_pos hk]
 have hgv2 : ∀ (u : Way) (g : Nat), gv' (u ++ [(l.length, g)]) = gv (u ++ [(0, g)]) := fun u g => by
  show (match (u ++ [(l.length, g)]).getLast? with | none => _ | some (k, g) => _) = _
  rw [List.getLast?_append, List.dropLast_concat]; simp only [List.getLast?_singleton, Option.some_or]; rw [if_neg (Nat.lt_irrefl _)]
 let F' : Nat → Prop := fun g => (ρ j).foot g ∨ F g
 let p' : Pl := ⟨none, l.length + 1, 0, x.sz, F', gv'⟩
 have hob : objR ρ w p' (⟨.gs (fs && fshL s.H ks), og.e, o.sz, l.length + 1, .d x (l ++ [y])⟩ : Oj) := by
  refine (show GsR w p' (⟨.gs (fs && fshL s.H ks), og.e, o.sz, l.length + 1, .d x (l ++ [y])⟩ : Oj) from ⟨rfl, ⟨h7.symm, rfl, by simp, h7⟩, ?_, fun k z hz => ?_⟩)
  ·rintro g (hg | hg)
   ·exact hG.lt g hg
   ·exact atB_lt hpm g (f2 g hg)
  ·rcases gq_app hz with ⟨hk, hz⟩ | ⟨rfl, rfl⟩
   ·exact DR.map x z _ _ 0 (fun u g _ _ => hgv1 u k g hk) (DR.foot (fun g hg => .inl hg) x z _ 0 (hG.el k z hz))
   ·exact DR.map x _ (fun g => [(0, g)]) (fun g => [(l.length, g)]) 0 (fun u g _ _ => hgv2 u g) (DR.foot (fun g hg => .inr hg) x _ _ 0 f3)
 have r4 := r3.new hs (o := ⟨.gs (fs && fshL s.H ks), og.e, o.sz, l.length + 1, .d x (l ++ [y])⟩) rfl (killO_len ks s.H) (fun j' x' hx' => by
   rcases killO_at hx' with hd | ⟨hx1, _⟩
   ·exact .inl hd
   ·exact .inr ⟨hx1, r3.hp j' x' hx1⟩) r3.kp hob (fun _ j' x' g hx' hxk hat hor hat2 => by
   rcases hor with hox | hox
   ·rcases killO_at hx' with hd | ⟨hx1, hnk⟩
    ·exact hxk hd
    ·rcases (show F' g from hat) with hF | hF
     ·refine r3.sep j' j x' og g ?_ hx1 h4 hox hat2 (by unfold objAt; simp only [h5]; exact hF)
      intro e; subst e; rw [h4] at hx1; injection hx1 with hx1; subst hx1
      unfold Oj.own at hox; rw [h5] at hox; cases hox
     ·obtain ⟨k, z, hk, hz, hat3⟩ := f2' g hF
      refine r3.sep j' k x' z g ?_ hx1 hz hox hat2 hat3
      intro e; subst e; exact hnk hox hk
   ·cases hox) (fun hfs g hat => by
   have hb : (fs && fshL s.H ks) = true := by
    unfold Oj.fsh at hfs
    cases hb : (fs && fshL s.H ks) with
    | true => rfl
    | false => rw [hb] at hfs; cases hfs
   simp only [Bool.and_eq_true] at hb
   rcases (show F' g from hat) with hF | hF
   ·exact own3 (r3.own j og g h4 (by unfold Oj.fsh; rw [h5, hb.1]) (by unfold objAt; simp only [h5]; exact hF)) rfl
   ·obtain ⟨k, z, hk, hz, hat3⟩ := f2' g hF
    obtain ⟨z', hz', hf⟩ := fshL_ok hb.2 k hk
    rw [hz] at hz'; injection hz' with hz'; subst hz'
    exact own3 (r3.own k z g hz hf hat3) rfl) s.fr a (fun t x hx => ltA_ok upd_lt (ltF_ok (okS_ok hs).1 t x hx) (r3.fr t x hx))
 have hi : i < s.H.length := (List.getElem?_eq_some_iff.1 h1).1
 have hlt : ltL s.H.length (tl.drop x.sz) = true := by
  have := ltH_ok (okS_ok hs).2.2 i o h1 (by rw [h2]; exact fun h => by cases h)
  rw [h3] at this
  simp only [ltX, Bool.and_eq_true] at this
  exact ltL_drop this.2 _
 refine ⟨_, r4.recsO (i := i) (o := o) (cs := .g s.H.length (l.length + 1) o.sz (tl.drop x.sz)) (by show (killO ks s.H ++ [_])[i]? = some o; rw [List.getElem?_append_left (by rw [killO_len]; exact hi), killO_ne hik]; exact h1) ?_⟩
 rw [upd_lt i hi]
 refine row_of h2 ⟨⟨e1, e2, ?_⟩, vs, ?_, hrow⟩
 ·show (ghc _ _ _ ++ tl.drop x.sz).length = o.n * o.sz
  rw [List.length_append, ghc_len, List.length_drop, h7, hlen]; omega
 ·show F2 _ (ghc _ _ _ ++ tl.drop x.sz) vs
  rw [← List.take_append_drop ((l.length + 1) * x.sz) vs, h7]
  refine F2.append (ghc_of hsz (by rw [List.length_take]; omega) (fun k g hk hg => ?_)) ?_
  ·have hkg : k * x.sz + g < (l.length + 1) * x.sz := by
    have : (k + 1) * x.sz ≤ (l.length + 1) * x.sz := Nat.mul_le_mul_right _ hk
    rw [Nat.add_mul, Nat.one_mul] at this; omega
   rw [upd_at, List.getElem?_take, if_pos hkg]
   show _ = some (gv' ([] ++ [(k, g)]))
   by_cases hkl : k < l.length
   ·rw [hgv1 [] k g hkl, List.nil_append, ← ghc_at hsz hv1 hkl hg, List.getElem?_take, if_pos]
    have : (k + 1) * x.sz ≤ l.length * x.sz := Nat.mul_le_mul_right _ hkl
    rw [Nat.add_mul, Nat.one_mul] at this; omega
   ·have : k = l.length := by omega
    subst this
    rw [hgv2 [] g, List.nil_append, f1 g hg, List.getElem?_take, if_pos hg, List.getElem?_drop]
  ·rw [hq1, ← List.drop_drop]
   exact F2.mono hv4 fun c hc v hr => ltC_ok upd_lt (ltL_ok (ρ := ρ) (ρ' := ρ) (fun _ _ => rfl) hlt c hc) hr
theorem RelA.absorb (r3 : RelA ρ bs w0 s a w) (hs : okS s = true) {i : Nat} {q : Gx} (h : ghO s.H i = some q) {ks : List Nat} (hik : i ∉ ks) {y : q.x.T} (hy : dcs (msk ks 0 s.H) q.x q.tl = some y) (htl : q.tl.length = q.x.sz) (hn : q.n = q.l.length) :
  ∃ ρ', RelA ρ' bs w0 ⟨s.fr, s.gl, (killO ks s.H ++ [(⟨.gs (q.fs && fshL s.H ks), q.og.e, q.o.sz, (q.l ++ [y]).length, .d q.x (q.l ++ [y])⟩ : Oj)]).set i ⟨q.o.kd, q.o.e, q.o.sz, (q.l ++ [y]).length, .g s.H.length (q.l ++ [y]).length q.o.sz []⟩⟩ a w := by
 have h0 := r3.absorb0 hs h hik hy htl hn
 have hx := ghO_ok h
 have e1 : (q.l ++ [y]).length = q.l.length + 1 := by simp
 have e2 : q.o.n = q.l.length + 1 := by
  have e3 := (row_parts (r3.hp i q.o hx.1) hx.2.1).1.2.2
  rw [hx.2.2.1, hx.2.2.2.2.2.2.1] at e3
  have e4 : (Cs.g q.j q.n q.x.sz q.tl).cl.length = (q.l.length + 1) * q.x.sz := by show (ghc _ _ _ ++ q.tl).length = _; rw [List.length_append, ghc_len, htl, hn, Nat.add_mul, Nat.one_mul]
  rw [e4] at e3
  exact Nat.eq_of_mul_eq_mul_right q.x.sz_pos e3.symm
 rw [e1]
 rw [show ({ q.o with cs := .g s.H.length (q.l.length + 1) q.o.sz [] } : Oj) = ⟨q.o.kd, q.o.e, q.o.sz, q.l.length + 1, .g s.H.length (q.l.length + 1) q.o.sz []⟩ by rw [← e2]] at h0
 exact h0
theorem g_deep {p : Pl} {o : Oj} {j n sz : Nat} {tl : List Cl} (h : objR ρ w p o) (hc : o.cs = .g j n sz tl) : o.deep = false := by
 unfold objR at h
 unfold Oj.deep
 cases hk : o.kd <;> simp only [hk] at h ⊢
 ·unfold DpR at h; rw [hc] at h; exact h.elim
 ·unfold GsR at h; rw [hc] at h; exact h.2.elim
 ·unfold OdR at h; rw [hc] at h; exact h.elim
 ·unfold OgR at h; rw [hc] at h; exact h.2.elim
theorem ltF_fr (r3 : RelA ρ bs w0 s a w) (hs : okS s = true) {p : Pl} : FrR (upd ρ s.H.length p) s.fr a := fun t x hx => ltA_ok upd_lt (ltF_ok (okS_ok hs).1 t x hx) (r3.fr t x hx)
theorem RelA.rev {fr gl : Fr} {H : Hp} (r : RelA ρ bs w0 ⟨fr, gl, H⟩ a w) {i : Nat} {o : Oj} (hr : objR ρ w (ρ i) o)
  (hsep : ∀ (j : Nat) (x : Oj) (g : Nat), j ≠ i → H[j]? = some x → (o.own = true ∨ x.own = true) → objAt (ρ i) o g → ¬ objAt (ρ j) x g)
  (hown : o.fsh = true → ∀ g, objAt (ρ i) o g → w0.heap.size ≤ g ∨ bs g ∨ (o.own = false ∧ bs.q g)) : RelA ρ bs w0 ⟨fr, gl, H.set i o⟩ a w := by
 have at_ : ∀ (j : Nat) (x : Oj), (H.set i o)[j]? = some x → (j = i ∧ x = o) ∨ (j ≠ i ∧ H[j]? = some x) := by
  intro j x hx
  rw [List.getElem?_set] at hx
  split at hx
  ·rename_i e
   split at hx
   ·injection hx with hx; exact .inl ⟨e.symm, hx.symm⟩
   ·cases hx
  ·rename_i e; exact .inr ⟨fun h => e h.symm, hx⟩
 refine ⟨r.fr, r.gl, fun j x hx => ?_, fun j k x y g hjk hx hy hox hat hat2 => ?_, fun j x g hx hox hat => ?_, r.kp⟩
 ·rcases at_ j x hx with ⟨rfl, rfl⟩ | ⟨_, h1⟩
  ·exact hr
  ·exact r.hp j x h1
 ·rcases at_ j x hx with ⟨rfl, rfl⟩ | ⟨hj, h1⟩
  ·rcases at_ k y hy with ⟨rfl, rfl⟩ | ⟨hk, h2⟩
   ·exact hjk rfl
   ·exact hsep k y g hk h2 (.inl hox) hat hat2
  ·rcases at_ k y hy with ⟨rfl, rfl⟩ | ⟨hk, h2⟩
   ·exact hsep j x g hj h1 (.inr hox) hat2 hat
   ·exact r.sep j k x y g hjk h1 h2 hox hat hat2
 ·rcases at_ j x hx with ⟨rfl, rfl⟩ | ⟨_, h1⟩
  ·exact hown hox g hat
  ·exact r.own j x g h1 hox hat
def ogBody : (x : Dsh) → x.T → Option (TypeId × List UInt8)
 | .by e, l => some (e, l)
 | .pr .u8 (.by e), t => some (e, t.2)
 | _, _ => none
def ogCells (r : Nat) : (x : Dsh) → x.T → List Cl
 | .by _, _ => [.wh r]
 | .pr .u8 (.by _), t => [.s (.u8 t.1), .wh r]
 | _, _ => []
theorem OgEl.row {gv : Way → Value} {k : Nat} : ∀ {x : Dsh} {y : x.T} {eb : TypeId} {l : List UInt8}, OgEl w gv x y k → ogBody x y = some (eb, l) → w.ownsRow 0 eb 1 (ogV gv x k) l.length (l.map bU)
 | .by e, y, eb, l, h, hb => by injection hb with hb; injection hb with h1 h2; subst h1; subst h2; exact h
 | .pr .u8 (.by e), y, eb, l, h, hb => by injection hb with hb; injection hb with h1 h2; subst h1; subst h2; exact h.2
theorem OgEl.cells {gv : Way → Value} {k r : Nat} {ρ' : Pls} : ∀ {x : Dsh} {y : x.T}, OgEl w gv x y k → clR ρ' (.wh r) (ogV gv x k) → (ogCells r x y).length = x.sz ∧ ∀ g, g < x.sz → ∃ c, (ogCells r x y)[g]? = some c ∧ clR ρ' c (gv [(k, g)])
 | .by e, y, h, hv => ⟨rfl, fun g hg => by
  obtain rfl : g = 0 := Nat.lt_one_iff.1 hg
  exact ⟨_, rfl, hv⟩⟩
 | .pr .u8 (.by e), y, h, hv => ⟨rfl, fun g hg => by
  have hg : g < 2 := hg
  match g, hg with
  | 0, _ => exact ⟨_, rfl, h.1⟩
  | 1, _ => exact ⟨_, rfl, hv⟩⟩
theorem own_pl {v : Value} {e : TypeId} {n : Nat} {vs : List Value} (h : w.ownsRow 0 e 1 v n vs) : ∃ p : Pl, v = .slice p.A p.n p.cap ∧ p.sz = 1 ∧ p.n = n := by
 rcases h.2 with ⟨hv, hn⟩ | ⟨g, cap, cur, hv, _⟩
 ·exact ⟨pl4 none 0 0 1, hv, rfl, hn.symm⟩
 ·exact ⟨pl4 (some ⟨g, 0, none⟩) n cap 1, hv, rfl, rfl⟩
theorem RelA.pop (r3 : RelA ρ bs w0 s a w) (hs : okS s = true) {i j : Nat} {e eg eb : TypeId} {sz n k szg ng : Nat} {x : Dsh} {L0 : List x.T} {y : x.T} {l : List UInt8} (hij : i ≠ j) (hi : s.H[i]? = some ⟨.row, e, sz, n, .g j k sz []⟩)
  (hj : s.H[j]? = some ⟨.og, eg, szg, ng, .d x (L0 ++ [y])⟩) (hk : k = (L0 ++ [y]).length) (hb : ogBody x y = some (eb, l)) (hsz : sz = x.sz) :
  ∃ ρ', RelA ρ' bs w0 ⟨s.fr, s.gl, (killH s.H j ++ [(⟨.og, eg, szg, L0.length, .d x L0⟩ : Oj), ⟨.row, eb, 1, l.length, .b l⟩]).set i ⟨.row, e, sz, n, .g s.H.length L0.length sz (ogCells (s.H.length + 1) x y)⟩⟩ a w := by
 subst hsz
 have hil : i < s.H.length := (List.getElem?_eq_some_iff.1 hi).1
 obtain ⟨hA, ⟨e1, e2, e3, e4⟩, hC1, hC2, hC3⟩ : OgR w (ρ j) ⟨.og, eg, szg, ng, .d x (L0 ++ [y])⟩ := r3.hp j _ hj
 simp only at e1 e2 e3 e4
 have hlen : (L0 ++ [y]).length = L0.length + 1 := by simp
 have hlast : gq (L0 ++ [y]) L0.length = some y := by unfold gq; rw [List.getElem?_append_right (Nat.le_refl _)]; simp
 have hel := hC1 L0.length y hlast
 have hrow := hel.row hb
 obtain ⟨pB, hv, pb1, pb2⟩ := own_pl hrow
 let F0 : Nat → Prop := fun g => ∃ q, q < L0.length ∧ (ogV (ρ j).gv x q).ownBlock = some g
 let pG : Pl := ⟨none, L0.length, 0, x.sz, F0, (ρ j).gv⟩
 have f0 : ∀ g, F0 g → objAt (ρ j) ⟨.og, eg, szg, ng, .d x (L0 ++ [y])⟩ g := fun g ⟨q, hq, ho⟩ => (hC2 g).2 ⟨q, by omega, ho⟩
 have hbk : ∀ g, objAt pB ⟨.row, eb, 1, l.length, .b l⟩ g → (ogV (ρ j).gv x L0.length).ownBlock = some g := fun g ⟨ad, ha, hg⟩ => by rw [hv, ha]; exact congrArg some hg
 have fb : ∀ g, objAt pB ⟨.row, eb, 1, l.length, .b l⟩ g → objAt (ρ j) ⟨.og, eg, szg, ng, .d x (L0 ++ [y])⟩ g := fun g hg => (hC2 g).2 ⟨L0.length, by omega, hbk g hg⟩
 have hog : OgR w pG ⟨.og, eg, szg, L0.length, .d x L0⟩ := ⟨rfl, ⟨e4.symm, rfl, rfl, e4⟩, fun q z hz => hC1 q z (by unfold gq at hz ⊢; rw [List.getElem?_append_left (List.getElem?_eq_some_iff.1 hz).1]; exact hz), fun g => Iff.rfl, fun q q' g hq hq' h1 h2 => hC3 q q' g (by omega) (by omega) h1 h2⟩
 have hB : ∀ ρ' : Pls, objR ρ' w pB ⟨.row, eb, 1, l.length, .b l⟩ := fun ρ' => ⟨⟨pb1, pb2, by simp [Cs.cl]⟩, l.map bU, csR_b.2 rfl, by rw [← hv, pb2]; exact hrow⟩
 have dis : ∀ g, F0 g → ¬ objAt pB ⟨.row, eb, 1, l.length, .b l⟩ g := fun g ⟨q, hq, ho⟩ hg => by
  have := hC3 q L0.length g (by omega) (by omega) ho (hbk g hg)
  omega
 have two : ∀ {q : Nat} {o : Oj} {p : Pl}, [(⟨.og, eg, szg, L0.length, .d x L0⟩ : Oj), ⟨.row, eb, 1, l.length, .b l⟩][q]? = some o → [pG, pB][q]? = some p → (q = 0 ∧ o = ⟨.og, eg, szg, L0.length, .d x L0⟩ ∧ p = pG) ∨ (q = 1 ∧ o = ⟨.row, eb, 1, l.length, .b l⟩ ∧ p = pB) := fun {q o p} h1 h2 => by
  match q, h1, h2 with
  | 0, h1, h2 => injection h1 with h1; injection h2 with h2; exact .inl ⟨rfl, h1.symm, h2.symm⟩
  | 1, h1, h2 => injection h1 with h1; injection h2 with h2; exact .inr ⟨rfl, h1.symm, h2.symm⟩
  | q + 2, h1, _ => simp at h1
 have at2 : ∀ {o : Oj} {p : Pl} {q g : Nat}, [(⟨.og, eg, szg, L0.length, .d x L0⟩ : Oj), ⟨.row, eb, 1, l.length, .b l⟩][q]? = some o → [pG, pB][q]? = some p → objAt p o g → objAt (ρ j) ⟨.og, eg, szg, ng, .d x (L0 ++ [y])⟩ g := fun h1 h2 h => by
  rcases two h1 h2 with ⟨_, rfl, rfl⟩ | ⟨_, rfl, rfl⟩
  ·exact f0 _ h
  ·exact fb _ h
 have r4 := r3.news hs (objs := [(⟨.og, eg, szg, L0.length, .d x L0⟩ : Oj), ⟨.row, eb, 1, l.length, .b l⟩]) (ps := [pG, pB]) rfl (H' := killH s.H j) (killH_len _ _) (fun q z hz => by
   rcases killH_at hz with hd | ⟨_, hz1⟩
   ·exact .inl hd
   ·exact .inr ⟨hz1, r3.hp q z hz1⟩) r3.kp (fun q o p h1 h2 => by
   rcases two h1 h2 with ⟨_, rfl, rfl⟩ | ⟨_, rfl, rfl⟩
   ·exact hog
   ·exact hB _) (fun q o p q' z g h1 h2 hz hzk hat _ haz => by
   rcases killH_at hz with hd | ⟨hq, hz1⟩
   ·exact hzk hd
   ·exact r3.sep j q' _ z g (fun h => hq h.symm) hj hz1 rfl (at2 h1 h2 hat) haz) (fun q q' o o' p p' g hqq h1 h2 h3 h4 _ hat hat2 => by
   rcases two h1 h3 with ⟨rfl, rfl, rfl⟩ | ⟨rfl, rfl, rfl⟩ <;> rcases two h2 h4 with ⟨rfl, rfl, rfl⟩ | ⟨rfl, rfl, rfl⟩
   ·exact hqq rfl
   ·exact dis g hat hat2
   ·exact dis g hat2 hat
   ·exact hqq rfl) (fun q o p h1 h2 _ g hat => r3.own.o hj rfl (at2 h1 h2 hat)) s.fr a (fun t z hz => ltA_ok updL_lt (ltF_ok (okS_ok hs).1 t z hz) (r3.fr t z hz))
 obtain ⟨⟨q1, q2, q3⟩, vs, hc, hspine⟩ := row_parts (r3.hp i _ hi) rfl
 have hc0 : F2 (clR ρ) (ghc j k x.sz) vs := by
  have : F2 (clR ρ) (ghc j k x.sz ++ []) vs := hc
  rwa [List.append_nil] at this
 have hvl : vs.length = (L0.length + 1) * x.sz := by rw [← hc0.1, ghc_len, hk, hlen]
 have hnsz : n * x.sz = (L0.length + 1) * x.sz := by rw [← hvl, hspine.1, q2]
 have hm1 : (L0.length + 1) * x.sz = L0.length * x.sz + x.sz := by rw [Nat.add_mul, Nat.one_mul]
 have u0 : updL ρ s.H.length [pG, pB] s.H.length = pG := updL_at (k := 0) rfl
 have u1 : updL ρ s.H.length [pG, pB] (s.H.length + 1) = pB := updL_at (k := 1) rfl
 obtain ⟨cl1, cl2⟩ := hel.cells (ρ' := updL ρ s.H.length [pG, pB]) (r := s.H.length + 1) (by show _ = Value.slice _ _ _; rw [u1]; exact hv)
 refine ⟨_, r4.rev (i := i) ?_ (fun q z g hq hz _ hag haz => ?_) (fun _ g hag => ?_)⟩
 ·rw [updL_lt i hil]
  refine row_of rfl ⟨⟨q1, q2, ?_⟩, vs, ?_, hspine⟩
  ·show (ghc _ _ _ ++ ogCells _ x y).length = n * x.sz
   rw [List.length_append, ghc_len, cl1, hnsz, hm1]
  ·show F2 _ (ghc _ _ _ ++ ogCells _ x y) vs
   have hg : ∀ q g, q < L0.length + 1 → g < x.sz → vs[q * x.sz + g]? = some ((ρ j).gv [(q, g)]) := fun q g hq hg => ghc_at x.sz_pos hc0 (by omega) hg
   rw [← List.take_append_drop (L0.length * x.sz) vs]
   refine F2.append (ghc_of x.sz_pos (by rw [List.length_take]; omega) (fun q g hq hg' => ?_)) ⟨by rw [List.length_drop, cl1]; omega, fun g c v hcg hvg => ?_⟩
   ·have hqg : q * x.sz + g < L0.length * x.sz := by
     have : (q + 1) * x.sz ≤ L0.length * x.sz := Nat.mul_le_mul_right _ hq
     rw [Nat.add_mul, Nat.one_mul] at this; omega
    rw [List.getElem?_take, if_pos hqg, hg q g (by omega) hg', u0]
   ·have hgl : g < x.sz := by rw [← cl1]; exact (List.getElem?_eq_some_iff.1 hcg).1
    obtain ⟨c', hc', hr'⟩ := cl2 g hgl
    rw [hc'] at hcg; injection hcg with hcg; subst hcg
    rw [List.getElem?_drop, hg L0.length g (by omega) hgl] at hvg
    injection hvg with hvg; subst hvg
    exact hr'
 ·rw [updL_lt i hil] at hag
  by_cases hql : q < s.H.length
  ·rw [updL_lt q hql] at haz
   rw [List.getElem?_append_left (by rw [killH_len]; exact hql)] at hz
   rcases killH_at hz with hd | ⟨_, hz1⟩
   ·unfold objAt at haz; simp only [hd] at haz
   ·exact r3.sep i q _ z g (fun h => hq h.symm) hi hz1 rfl hag haz
  ·obtain ⟨d, rfl⟩ : ∃ d, q = s.H.length + d := ⟨q - s.H.length, by omega⟩
   rw [List.getElem?_append_right (by rw [killH_len]; omega), killH_len, Nat.add_sub_cancel_left] at hz
   have hd2 : d < 2 := (List.getElem?_eq_some_iff.1 hz).1
   have hp : ∃ p, [pG, pB][d]? = some p := ⟨_, List.getElem?_eq_getElem hd2⟩
   obtain ⟨p, hp⟩ := hp
   rw [updL_at hp] at haz
   exact r3.sep i j _ _ g hij hi hj rfl hag (at2 hz hp haz)
 ·rw [updL_lt i hil] at hag
  exact two3 (r3.own.o hi rfl hag)
theorem OgEl.congr {gv gv' : Way → Value} {k k' : Nat} : ∀ {x : Dsh} {y : x.T}, (∀ g, g < x.sz → gv' [(k', g)] = gv [(k, g)]) → OgEl w gv x y k → OgEl w gv' x y k'
 | .by e, y, h, he => by
  show w.ownsRow 0 e 1 (gv' [(k', 0)]) _ _
  rw [h 0 (Nat.lt_succ_self 0)]; exact he
 | .pr .u8 (.by e), y, h, he => by
  refine ⟨?_, ?_⟩
  ·rw [h 0 (show 0 < 2 by decide)]; exact he.1
  ·rw [h 1 (show 1 < 2 by decide)]; exact he.2
theorem RelA.push (r3 : RelA ρ bs w0 s a w) (hs : okS s = true) {i j : Nat} {e eg : TypeId} {sz n k szg ng : Nat} {x : Dsh} {L0 : List x.T} {y : x.T} {tl : List Cl} {ks : List Nat} (hij : i ≠ j) (hi : s.H[i]? = some ⟨.row, e, sz, n, .g j k sz tl⟩)
  (hj : s.H[j]? = some ⟨.og, eg, szg, ng, .d x L0⟩) (hk : k = L0.length) (hsz : sz = x.sz) (htl : tl.length = x.sz) (hik : i ∉ ks) (hjk : j ∉ ks)
  (hel : ∀ us : List Value, F2 (clR ρ) tl us → OgEl w (fun q => match q with | [(_, g)] => us.getD g undef | _ => undef) x y 0)
  (hbl : ∀ us : List Value, F2 (clR ρ) tl us → ∀ g, (us.getD (x.sz - 1) undef).ownBlock = some g → ∃ r o, r ∈ ks ∧ s.H[r]? = some o ∧ o.own = true ∧ objAt (ρ r) o g) :
  ∃ ρ', RelA ρ' bs w0 ⟨s.fr, s.gl, (killH (killO ks s.H) j ++ [(⟨.og, eg, szg, (L0 ++ [y]).length, .d x (L0 ++ [y])⟩ : Oj)]).set i ⟨.row, e, sz, n, .g s.H.length (L0 ++ [y]).length sz []⟩⟩ a w := by
 subst hsz; subst hk
 have hil : i < s.H.length := (List.getElem?_eq_some_iff.1 hi).1
 obtain ⟨hA, ⟨e1, e2, e3, e4⟩, hC1, hC2, hC3⟩ : OgR w (ρ j) ⟨.og, eg, szg, ng, .d x L0⟩ := r3.hp j _ hj
 simp only at e1 e2 e3 e4
 have hlen : (L0 ++ [y]).length = L0.length + 1 := by simp
 have hsp := x.sz_pos
 obtain ⟨⟨q1, q2, q3⟩, vs, hc, hspine⟩ := row_parts (r3.hp i _ hi) rfl
 have hc0 : F2 (clR ρ) (ghc j L0.length x.sz ++ tl) vs := hc
 have hv1 := hc0.take (L0.length * x.sz)
 have hv2 := hc0.drop (L0.length * x.sz)
 rw [List.take_left' (ghc_len _ _ _)] at hv1
 rw [List.drop_left' (ghc_len _ _ _)] at hv2
 have hm1 : (L0.length + 1) * x.sz = L0.length * x.sz + x.sz := by rw [Nat.add_mul, Nat.one_mul]
 have hvl : vs.length = (L0.length + 1) * x.sz := by rw [← hc0.1, List.length_append, ghc_len, htl, hm1]
 have hnsz : n * x.sz = (L0.length + 1) * x.sz := by rw [← hvl, hspine.1, q2]
 let gv' : Way → Value := fun q => match q with | [(q, g)] => vs.getD (q * x.sz + g) undef | _ => undef
 have g1 : ∀ q g, q < L0.length → g < x.sz → gv' [(q, g)] = (ρ j).gv [(q, g)] := fun q g hq hg => by
  have := ghc_at hsp hv1 hq hg
  have hqg : q * x.sz + g < L0.length * x.sz := by
   have : (q + 1) * x.sz ≤ L0.length * x.sz := Nat.mul_le_mul_right _ hq
   rw [Nat.add_mul, Nat.one_mul] at this; omega
  rw [List.getElem?_take, if_pos hqg] at this
  show vs.getD _ undef = _
  rw [List.getD_eq_getElem?_getD, this]; rfl
 have g2 : ∀ g, gv' [(L0.length, g)] = (vs.drop (L0.length * x.sz)).getD g undef := fun g => by
  show vs.getD _ undef = _
  rw [List.getD_eq_getElem?_getD, List.getD_eq_getElem?_getD, List.getElem?_drop]
 have b1 : ∀ q, q < L0.length → ogV gv' x q = ogV (ρ j).gv x q := fun q hq => g1 q _ hq (by omega)
 have b2 : ∀ g, (ogV gv' x L0.length).ownBlock = some g → ∃ r o, r ∈ ks ∧ s.H[r]? = some o ∧ o.own = true ∧ objAt (ρ r) o g := fun g hg => by
  refine hbl _ hv2 g ?_
  have : ogV gv' x L0.length = (vs.drop (L0.length * x.sz)).getD (x.sz - 1) undef := g2 _
  rwa [this] at hg
 let F' : Nat → Prop := fun g => ∃ q, q < (L0 ++ [y]).length ∧ (ogV gv' x q).ownBlock = some g
 let p' : Pl := ⟨none, (L0 ++ [y]).length, 0, x.sz, F', gv'⟩
 have split : ∀ g, F' g → objAt (ρ j) ⟨.og, eg, szg, ng, .d x L0⟩ g ∨ ∃ r o, r ∈ ks ∧ s.H[r]? = some o ∧ o.own = true ∧ objAt (ρ r) o g := fun g ⟨q, hq, ho⟩ => by
  by_cases hql : q < L0.length
  ·rw [b1 q hql] at ho; exact .inl ((hC2 g).2 ⟨q, hql, ho⟩)
  ·have : q = L0.length := by omega
   subst this; exact .inr (b2 g ho)
 have cross : ∀ (q g : Nat), q < L0.length → (ogV gv' x q).ownBlock = some g → ¬ (ogV gv' x L0.length).ownBlock = some g := fun q g hq h1 h2 => by
  rw [b1 q hq] at h1
  obtain ⟨r, o, hr, ho, _, hat⟩ := b2 g h2
  exact r3.sep j r _ o g (fun h => hjk (h ▸ hr)) hj ho rfl ((hC2 g).2 ⟨q, hq, h1⟩) hat
 have hog : OgR w p' ⟨.og, eg, szg, (L0 ++ [y]).length, .d x (L0 ++ [y])⟩ := by
  refine ⟨rfl, ⟨e4.symm, rfl, rfl, e4⟩, fun q z hz => ?_, fun g => Iff.rfl, fun q q' g hq hq' h1 h2 => ?_⟩
  ·rcases gq_app hz with ⟨hq, hz⟩ | ⟨rfl, rfl⟩
   ·exact (hC1 q z hz).congr fun g hg => g1 q g hq hg
   ·exact (hel _ hv2).congr fun g hg => g2 g
  ·by_cases c1 : q < L0.length <;> by_cases c2 : q' < L0.length
   ·rw [b1 q c1] at h1; rw [b1 q' c2] at h2; exact hC3 q q' g c1 c2 h1 h2
   ·have : q' = L0.length := by omega
    subst this; exact absurd h2 (cross q g c1 h1)
   ·have : q = L0.length := by omega
    subst this; exact absurd h1 (cross q' g c2 h2)
   ·omega
 have hKl : (killH (killO ks s.H) j).length = s.H.length := by rw [killH_len, killO_len]
 have hK : ∀ (q : Nat) (z : Oj), (killH (killO ks s.H) j)[q]? = some z → z.kd = .dead ∨ (q ≠ j ∧ s.H[q]? = some z ∧ (z.own = true → q ∉ ks)) := fun q z hz => by
  rcases killH_at hz with hd | ⟨hq, hz1⟩
  ·exact .inl hd
  ·rcases killO_at hz1 with hd | ⟨hz2, hn⟩
   ·exact .inl hd
   ·exact .inr ⟨hq, hz2, hn⟩
 have r4 := r3.new (H' := killH (killO ks s.H) j) hs (o := ⟨.og, eg, szg, (L0 ++ [y]).length, .d x (L0 ++ [y])⟩) (p := p') rfl hKl (fun q z hz => by
   rcases hK q z hz with hd | ⟨_, hz1, _⟩
   ·exact .inl hd
   ·exact .inr ⟨hz1, r3.hp q z hz1⟩) r3.kp hog
  (fun _ q z g hz hzk hag _ haz => by
   rcases hK q z hz with hd | ⟨hq, hz1, hnk⟩
   ·exact hzk hd
   ·rcases split g hag with h1 | ⟨r, o, hr, ho, hown, hat⟩
    ·exact r3.sep j q _ z g (fun h => hq h.symm) hj hz1 rfl h1 haz
    ·by_cases hqr : r = q
     ·subst hqr
      rw [ho] at hz1; injection hz1 with hz1; subst hz1
      exact hnk hown hr
     ·exact r3.sep r q o z g hqr ho hz1 hown hat haz)
  (fun _ g hag => by
   rcases split g hag with h1 | ⟨r, o, hr, ho, hown, hat⟩
   ·exact two3 (r3.own.o hj rfl h1)
   ·exact two3 (r3.own.o ho hown hat)) s.fr a (ltF_fr r3 hs)
 refine ⟨_, r4.rev (i := i) ?_ (fun q z g hq hz _ hag haz => ?_) (fun _ g hag => ?_)⟩
 ·rw [upd_lt i hil]
  refine row_of rfl ⟨⟨q1, q2, ?_⟩, vs, ?_, hspine⟩
  ·show (ghc _ _ _ ++ []).length = n * x.sz
   rw [List.append_nil, ghc_len, hnsz, hlen]
  ·show F2 _ (ghc _ _ _ ++ []) vs
   rw [List.append_nil]
   refine ghc_of hsp (by rw [hvl, hlen]) (fun q g hq hg => ?_)
   rw [upd_at]
   have hqg : q * x.sz + g < vs.length := by
    have : (q + 1) * x.sz ≤ (L0.length + 1) * x.sz := Nat.mul_le_mul_right _ (by omega)
    rw [Nat.add_mul, Nat.one_mul] at this; omega
   show _ = some (vs.getD (q * x.sz + g) undef)
   rw [List.getD_eq_getElem?_getD, List.getElem?_eq_getElem hqg]; rfl
 ·rw [upd_lt i hil] at hag
  rcases getElem?_snoc hz with ⟨hql, hz1⟩ | ⟨hql, rfl⟩
  ·rw [hKl] at hql
   rw [upd_lt q hql] at haz
   rcases hK q z hz1 with hd | ⟨_, hz2, _⟩
   ·unfold objAt at haz; simp only [hd] at haz
   ·exact r3.sep i q _ z g (fun h => hq h.symm) hi hz2 rfl hag haz
  ·rw [hKl] at hql
   rw [hql, upd_at] at haz
   rcases split g haz with h1 | ⟨r, o, hr, ho, hown, hat⟩
   ·exact r3.sep i j _ _ g hij hi hj rfl hag h1
   ·exact r3.sep i r _ o g (fun h => hik (h ▸ hr)) hi ho rfl hag hat
 ·rw [upd_lt i hil] at hag
  exact two3 (r3.own.o hi rfl hag)
theorem ownB_ok (hp : HpR ρ w s.H) {ks : List Nat} {e : TypeId} {c : Cl} {l : List UInt8} (h : ownB s.H ks e c = some l) {v : Value} (hv : clR ρ c v) :
  w.ownsRow 0 e 1 v l.length (l.map bU) ∧ ∀ g, v.ownBlock = some g → ∃ r o, r ∈ ks ∧ s.H[r]? = some o ∧ o.own = true ∧ objAt (ρ r) o g := by
 unfold ownB at h
 split at h
 ·injection h with h; subst h
  obtain rfl : v = .slice none 0 0 := hv
  exact ⟨⟨rfl, .inl ⟨rfl, rfl⟩⟩, fun g hg => nomatch hg⟩
 ·rename_i r
  split at h
  ·rename_i o hm ho
   split at h
   ·rename_i l' h1 h2 h3 h4
    injection h with h; subst h
    have hr := hp r o ho
    have hn := row_n hr h1 h3
    obtain ⟨_, vs, hc, hrow⟩ := row_parts hr h1
    rw [h4] at hc
    obtain rfl := csR_b.1 hc
    obtain rfl : v = .slice (ρ r).A (ρ r).n (ρ r).cap := hv
    have hnn : (ρ r).n = l'.length := by
     have := (row_parts hr h1).1.2.1
     rw [this, hn, h4]; simp [Cs.cl]
    rw [h3, Nat.eq_of_beq_eq_true h2, hnn] at hrow
    refine ⟨by rw [hnn]; exact hrow, fun g hg => ⟨r, o, memN_ok hm, ho, row_own h1, ?_⟩⟩
    unfold objAt; simp only [h1]
    cases hA : (ρ r).A with
    | none => rw [hA] at hg; cases hg
    | some ad => rw [hA] at hg; injection hg with hg; exact ⟨ad, rfl, hg⟩
   ·cases h
  ·cases h
 ·cases h
theorem u8C_ok {c : Cl} {m : UInt8} (h : u8C c = some m) : c = .s (.u8 m) := by
 unfold u8C at h
 split at h
 ·injection h with h; subst h; rfl
 ·cases h
theorem psE_ok (hp : HpR ρ w s.H) {ks : List Nat} {tl : List Cl} : ∀ {x : Dsh} {y : x.T}, psE s.H ks tl x = some y → tl.length = x.sz ∧ ∀ us : List Value, F2 (clR ρ) tl us →
  OgEl w (fun q => match q with | [(_, g)] => us.getD g undef | _ => undef) x y 0 ∧ ∀ g, (us.getD (x.sz - 1) undef).ownBlock = some g → ∃ r o, r ∈ ks ∧ s.H[r]? = some o ∧ o.own = true ∧ objAt (ρ r) o g
 | .by e, y, h => by
  have h : psE1 s.H ks e tl = some y := h
  unfold psE1 at h
  split at h
  ·rename_i c
   refine ⟨rfl, fun us hu => ?_⟩
   obtain ⟨v, vs, rfl, h1, h2⟩ := hu.uncons
   exact ownB_ok hp h h1
  ·cases h
 | .pr .u8 (.by e), y, h => by
  have h : psE2 s.H ks e tl = some y := h
  unfold psE2 at h
  split at h
  ·rename_i d c
   split at h
   ·rename_i m l hm hl
    injection h with h; subst h
    have hd := u8C_ok hm
    subst hd
    refine ⟨rfl, fun us hu => ?_⟩
    obtain ⟨v0, vs, rfl, h0, hu⟩ := hu.uncons
    obtain ⟨v, vs, rfl, h1, h2⟩ := hu.uncons
    obtain ⟨k1, k2⟩ := ownB_ok hp hl h1
    exact ⟨⟨h0, k1⟩, k2⟩
   ·cases h
  ·cases h
theorem dp1_ok {d : Dpo} {es : List (Nat × Nat)} (h : dp1 d s = some (es, s')) (he : ∀ q ∈ es, q.1 = q.2) (hR : Rel N bs w0 s a w) : Rel N bs w0 s' a w := by
 by_cases hcc : ∃ c, d = .co c
 ·obtain ⟨c, rfl⟩ := hcc
  simp only [dp1] at h
  split at h
  ·rename_i s1 h1
   injection h with h; injection h with _ h; subst h
   exact co1_ok h1 hR
  ·cases h
 obtain ⟨r1, r2, ρ, r3⟩ := hR
 refine ⟨r1, r2, ?_⟩
 cases d with
 | co c => exact absurd ⟨c, rfl⟩ hcc
 | g0 i x =>
  simp only [dp1] at h
  split at h
  ·rename_i o ho hs
   split at h
   ·rename_i hk hem hsz
    injection h with h; injection h with _ h; subst h
    have hsz := Nat.eq_of_beq_eq_true hsz
    have hem := emptyX_ok hem
    have hi : i < s.H.length := (List.getElem?_eq_some_iff.1 ho).1
    obtain ⟨⟨e1, e2, e3⟩, vs, hc, hrow⟩ := row_parts (r3.hp i o ho) hk
    have r4 := r3.new hs (o := ⟨.gs true, o.e, o.sz, 0, .d x []⟩) (p := ⟨none, 0, 0, x.sz, fun _ => False, fun _ => undef⟩) rfl rfl (fun j z hz => .inr ⟨hz, r3.hp j z hz⟩) r3.kp
     ⟨rfl, ⟨hsz.symm, rfl, rfl, hsz⟩, fun g hg => hg.elim, fun k y hy => nomatch hy⟩ (fun _ _ _ _ _ _ hat => hat.elim) (fun _ _ hat => hat.elim) s.fr a (ltF_fr r3 hs)
    refine ⟨_, r4.recsO (i := i) (o := o) (cs := .g s.H.length 0 o.sz []) (by show (s.H ++ [_])[i]? = some o; rw [List.getElem?_append_left hi]; exact ho) ?_⟩
    rw [upd_lt i hi]
    refine row_of hk ⟨⟨e1, e2, ?_⟩, vs, ?_, hrow⟩
    ·show (ghc _ _ _ ++ []).length = _
     rw [List.append_nil, ghc_len, ← e3, hem, Nat.zero_mul]; rfl
    ·have hv := hc.len
     rw [hem] at hv
     have : vs = [] := List.eq_nil_of_length_eq_zero (by simpa using hv)
     subst this
     show F2 _ (ghc _ _ _ ++ []) []
     have : ghc s.H.length 0 o.sz = [] := List.eq_nil_of_length_eq_zero (by rw [ghc_len, Nat.zero_mul])
     rw [this]; exact F2.nil
   ·cases h
  ·cases h
 | gc i x =>
  simp only [dp1] at h
  split at h
  ·rename_i o ho hs
   split at h
   ·rename_i l hk hcs hsz
    injection h with h; injection h with _ h; subst h
    have hsz := Nat.eq_of_beq_eq_true hsz
    have hi : i < s.H.length := (List.getElem?_eq_some_iff.1 ho).1
    obtain ⟨⟨e1, e2, e3⟩, vs, hc, hrow⟩ := row_parts (r3.hp i o ho) hk
    have r4 := r3.new hs (o := ⟨.gs true, o.e, o.sz, 0, .d x []⟩) (p := ⟨none, 0, 0, x.sz, fun _ => False, fun _ => undef⟩) rfl rfl (fun j z hz => .inr ⟨hz, r3.hp j z hz⟩) r3.kp
     ⟨rfl, ⟨hsz.symm, rfl, rfl, hsz⟩, fun g hg => hg.elim, fun k y hy => nomatch hy⟩ (fun _ _ _ _ _ _ hat => hat.elim) (fun _ _ hat => hat.elim) s.fr a (ltF_fr r3 hs)
    have hlt : ltX s.H.length o.cs = true := ltH_ok (okS_ok hs).2.2 i o ho (by rw [hk]; exact fun h => by cases h)
    have hg0 : ghc s.H.length 0 o.sz = [] := List.eq_nil_of_length_eq_zero (by rw [ghc_len, Nat.zero_mul])
    refine ⟨_, r4.recsO (i := i) (o := o) (cs := .g s.H.length 0 o.sz l) (by show (s.H ++ [_])[i]? = some o; rw [List.getElem?_append_left hi]; exact ho) ?_⟩
    rw [upd_lt i hi]
    refine row_of hk ⟨⟨e1, e2, ?_⟩, vs, ?_, hrow⟩
    ·show (ghc _ _ _ ++ l).length = _
     rw [hg0, List.nil_append, ← e3, hcs]; rfl
    ·show F2 _ (ghc _ _ _ ++ l) vs
     rw [hg0, List.nil_append]
     have := ltX_ok (ρ' := upd ρ s.H.length ⟨none, 0, 0, x.sz, fun _ => False, fun _ => undef⟩) upd_lt hlt hc
     rw [hcs] at this
     exact this
   ·cases h
  ·cases h
 | ec i k t =>
  simp only [dp1] at h
  split at h
  ·rename_i o hl
   obtain ⟨ho, hod⟩ := live_ok hl
   split at h
   ·rename_i l hcs
    split at h
    ·rename_i v hk
     split at h
     ·injection h with h; injection h with _ h; subst h
      refine ⟨_, r3.recs (i := i) (o := o) ho (fun vs hvs => ?_) ?_ (not_dp (r3.hp i o ho) hcs)⟩
      ·rw [hcs] at hvs
       have hvs' : F2 (clR ρ) l vs := hvs
       show F2 (clR ρ) (l.set k _) vs
       refine ⟨by rw [List.length_set]; exact hvs'.1, fun q x y hx hy => ?_⟩
       rw [List.getElem?_set] at hx
       split at hx
       ·rename_i e2
        subst e2
        split at hx
        ·injection hx with hx; subst hx
         have h5 : clR ρ (.s (.v .nilIface)) y := hvs'.2 k _ y hk hy
         exact h5
        ·cases hx
       ·exact hvs'.2 q x y hx hy
      ·rw [hcs]; show (l.set k _).length = l.length; rw [List.length_set]
     ·cases h
    ·cases h
   ·cases h
  ·cases h
 | oc i x =>
  simp only [dp1] at h
  split at h
  ·rename_i o ho hs
   split at h
   ·rename_i l hk hcs hsz
    injection h with h; injection h with _ h; subst h
    have hsz := Nat.eq_of_beq_eq_true hsz
    have hi : i < s.H.length := (List.getElem?_eq_some_iff.1 ho).1
    obtain ⟨⟨e1, e2, e3⟩, vs, hc, hrow⟩ := row_parts (r3.hp i o ho) hk
    have r4 := r3.new hs (o := ⟨.og, o.e, o.sz, 0, .d x []⟩) (p := ⟨none, 0, 0, x.sz, fun _ => False, fun _ => undef⟩) rfl rfl (fun j z hz => .inr ⟨hz, r3.hp j z hz⟩) r3.kp
     ⟨rfl, ⟨hsz.symm, rfl, rfl, hsz⟩, (show OgC w (fun _ => undef) (fun _ => False) x [] from And.intro (fun (k : Nat) y (hy : gq ([] : List x.T) k = some y) => nomatch hy) (And.intro (fun g => Iff.intro (fun hg => hg.elim) (fun ⟨k, hk, _⟩ => absurd hk (Nat.not_lt_zero k))) (fun k k' g hk => absurd hk (Nat.not_lt_zero k))))⟩ (fun _ _ _ _ _ _ hat => hat.elim) (fun _ _ hat => hat.elim) s.fr a (ltF_fr r3 hs)
    have hlt : ltX s.H.length o.cs = true := ltH_ok (okS_ok hs).2.2 i o ho (by rw [hk]; exact fun h => by cases h)
    have hg0 : ghc s.H.length 0 o.sz = [] := List.eq_nil_of_length_eq_zero (by rw [ghc_len, Nat.zero_mul])
    refine ⟨_, r4.recsO (i := i) (o := o) (cs := .g s.H.length 0 o.sz l) (by show (s.H ++ [_])[i]? = some o; rw [List.getElem?_append_left hi]; exact ho) ?_⟩
    rw [upd_lt i hi]
    refine row_of hk ⟨⟨e1, e2, ?_⟩, vs, ?_, hrow⟩
    ·show (ghc _ _ _ ++ l).length = _
     rw [hg0, List.nil_append, ← e3, hcs]; rfl
    ·show F2 _ (ghc _ _ _ ++ l) vs
     rw [hg0, List.nil_append]
     have := ltX_ok (ρ' := upd ρ s.H.length ⟨none, 0, 0, x.sz, fun _ => False, fun _ => undef⟩) upd_lt hlt hc
     rw [hcs] at this
     exact this
   ·cases h
  ·cases h
 | ps i ks =>
  simp only [dp1] at h
  split at h
  ·rename_i q hq hs
   split at h
   ·rename_i y hy hm1 hm2
    injection h with h; injection h with h1 h; subst h
    obtain ⟨o, j, n, tl, og, x, l⟩ := q
    obtain ⟨q1, q2, q3, q4, q5, q6, q7, q8⟩ := ghW_ok hq
    simp only at q1 q2 q3 q4 q5 q6 q7 q8 hy hm2 h1 ⊢
    obtain ⟨kd, e, sz, no, cs⟩ := o
    obtain ⟨kd', eg, szg, ng, cs'⟩ := og
    simp only at q1 q2 q3 q4 q5 q6 q7
    subst q2; subst q3; subst q5; subst q6; subst q7
    have hn : n = l.length := he _ (by rw [← h1]; exact List.mem_singleton.2 rfl)
    obtain ⟨htl, hpe⟩ := psE_ok r3.hp hy
    have hno : no = (l ++ [y]).length := by
     have e3 := (row_parts (r3.hp i _ q1) rfl).1.2.2
     have e4 : (ghc j n x.sz ++ tl).length = no * x.sz := e3
     rw [List.length_append, ghc_len, htl, hn, ← Nat.succ_mul] at e4
     rw [List.length_append]
     exact (Nat.eq_of_mul_eq_mul_right x.sz_pos e4).symm
    obtain ⟨ρ', r5⟩ := r3.push hs q8 q1 q4 hn rfl htl (memN_no hm1) (memN_no hm2) (fun us hu => (hpe us hu).1) (fun us hu => (hpe us hu).2)
    rw [hno] at r5
    exact ⟨ρ', r5⟩
   ·cases h
  ·cases h
 | aq i ks =>
  simp only [dp1] at h
  split at h
  ·rename_i q hq hs hm
   split at h
   ·rename_i y hy htl
    injection h with h; injection h with h1 h; subst h
    exact r3.absorb1 hs hq (memN_no hm) hy (Nat.le_of_ble_eq_true htl) (he _ (by rw [← h1]; exact List.mem_singleton.2 rfl))
   ·cases h
  ·cases h
 | ab i ks =>
  simp only [dp1] at h
  split at h
  ·rename_i q hq hs hm
   split at h
   ·rename_i y hy htl
    injection h with h; injection h with h1 h; subst h
    exact r3.absorb hs hq (memN_no hm) hy (Nat.eq_of_beq_eq_true htl) (he _ (by rw [← h1]; exact List.mem_singleton.2 rfl))
   ·cases h
  ·cases h
 | fz t =>
  simp only [dp1] at h
  split at h
  ·rename_i i hl
   split at h
   ·rename_i q hq hs
    split at h
    ·rename_i htl
     injection h with h; injection h with h1 h; subst h
     have hv := r3.fr t _ hl
     obtain ⟨p, _, _, _, r4⟩ := r3.freeze hs hq htl (he _ (by rw [← h1]; exact List.mem_singleton.2 rfl)) (putF s.fr (some t) (.c (.wh s.H.length))) (fun p e1 e2 e3 => by
      refine FrR.same (ltF_fr r3 hs) ?_
      show _ = Value.slice _ _ _
      rw [upd_at, e1, e2, e3]; exact hv)
     exact ⟨_, r4⟩
    ·cases h
   ·cases h
  ·cases h
 | fzc i k =>
  simp only [dp1] at h
  split at h
  ·rename_i o hlo hs
   obtain ⟨ho, hod⟩ := live_ok hlo
   split at h
   ·rename_i j n sz tl hcs
    split at h
    ·rename_i r hk
     split at h
     ·rename_i q hq hir
      split at h
      ·rename_i htl
       injection h with h; injection h with h1 h; subst h
       have hne : i ≠ r := fun e => by rw [e, Nat.beq_refl] at hir; cases hir
       obtain ⟨p, e1, e2, e3, r4⟩ := r3.freeze hs hq htl (he _ (by rw [← h1]; exact List.mem_singleton.2 rfl)) s.fr (fun p _ _ _ => ltF_fr r3 hs)
       have hi : i < s.H.length := (List.getElem?_eq_some_iff.1 ho).1
       have hki : (killH s.H r)[i]? = some o := by
        unfold killH
        split
        ·rw [List.getElem?_set_ne (fun e => hne e.symm)]; exact ho
        ·exact ho
       refine ⟨_, r4.recs (i := i) (o := o) (by show (killH s.H r ++ [_])[i]? = some o; rw [List.getElem?_append_left (by rw [killH_len]; exact hi)]; exact hki) (fun vs hvs => ?_) ?_ (g_deep (r3.hp i o ho) hcs)⟩
       ·rw [hcs] at hvs
        have hvs' : F2 (clR (upd ρ s.H.length p)) (ghc j n sz ++ tl) vs := hvs
        have h1 := hvs'.take (n * sz)
        have h2 := hvs'.drop (n * sz)
        rw [List.take_left' (ghc_len _ _ _)] at h1
        rw [List.drop_left' (ghc_len _ _ _)] at h2
        have h3 : F2 (clR (upd ρ s.H.length p)) (tl.set k (.wh s.H.length)) (vs.drop (n * sz)) := by
         refine ⟨by rw [List.length_set]; exact h2.1, fun q' x y hx hy => ?_⟩
         rw [List.getElem?_set] at hx
         split at hx
         ·rename_i e4
          subst e4
          split at hx
          ·injection hx with hx; subst hx
           have h5 := h2.2 k _ y hk hy
           show y = _
           rw [upd_at, e1, e2, e3]
           rw [← upd_lt (ρ := ρ) (p := p) r (List.getElem?_eq_some_iff.1 (ghO_ok hq).1).1]
           exact h5
          ·cases hx
         ·exact h2.2 q' x y hx hy
        have := F2.append h1 h3
        rw [List.take_append_drop] at this
        exact this
       ·rw [hcs]; show (ghc _ _ _ ++ _).length = (ghc _ _ _ ++ _).length
        rw [List.length_append, List.length_append, List.length_set]
      ·cases h
     ·cases h
    ·cases h
   ·cases h
  ·cases h
 | wk i =>
  simp only [dp1] at h
  split at h
  ·rename_i o ho
   split at h
   ·rename_i x hx
    injection h with h; injection h with _ h; subst h
    exact ⟨_, r3.wk ho hx⟩
   ·cases h
  ·cases h
 | dn t e x =>
  simp only [dp1] at h
  split at h
  ·rename_i hl hs
   injection h with h; injection h with _ h; subst h
   have hv := r3.fr t _ hl
   refine ⟨_, r3.new hs (o := ⟨.dp true, e, x.sz, 0, .d x []⟩) (p := ⟨none, 0, 0, x.sz, fun _ => False, fun _ => .slice none 0 0⟩) rfl rfl (fun j z hz => .inr ⟨hz, r3.hp j z hz⟩) r3.kp
     ⟨⟨rfl, rfl, rfl, rfl⟩, rfl, fun g hg => hg.elim, none, 0, rfl, Nat.le_refl _, by simp [maxLen], fun _ => rfl, fun ad ha _ => (nomatch ha), fun k y hy => (nomatch hy)⟩ (fun _ _ _ _ _ _ hat => hat.elim) (fun _ _ hat => hat.elim) _ a ?_⟩
   refine FrR.same (ltF_fr r3 hs) ?_
   show _ = Value.slice _ _ _
   rw [upd_at]; exact hv
  ·cases h
def dpS : List Dpo → S → Option (List (Nat × Nat) × S)
 | [], s => some ([], s)
 | d :: ds, s => match dp1 d s with
  | some (e1, s1) => (match dpS ds s1 with | some (e2, s2) => some (e1 ++ e2, s2) | none => none)
  | none => none
theorem dpS_ok : ∀ {ds : List Dpo} {s s' : S} {es : List (Nat × Nat)}, dpS ds s = some (es, s') → (∀ q ∈ es, q.1 = q.2) → Rel N bs w0 s a w → Rel N bs w0 s' a w
 | [], s, s', es, h, _, hR => by injection h with h; injection h with _ h; subst h; exact hR
 | d :: ds, s, s', es, h, he, hR => by
  simp only [dpS] at h
  split at h
  ·rename_i e1 s1 h1
   split at h
   ·rename_i e2 s2 h2
    injection h with h; injection h with h3 h; subst h; subst h3
    exact dpS_ok h2 (fun q hq => he q (List.mem_append_right _ hq)) (dp1_ok h1 (fun q hq => he q (List.mem_append_left _ hq)) hR)
   ·cases h
  ·cases h
def afterD (ds : List Dpo) (cs : List Co) (live objs : List Nat) (s : S) : Option (List (Nat × Nat) × S) := match dpS ds s with
 | some (es, s1) => (match after cs live objs s1 with | some s2 => some (es, s2) | none => none)
 | none => none
variable {Q : Exit → S → Prop}
theorem W_cod {c : Code} (ds : List Dpo) (es : List Nat) (cs : List Co) (live objs : List Nat) {s' : S} (h : afterD ds cs live objs s = some (es.map fun n => (n, n), s')) (hW : W P N bs w0 c s' Q) : W P N bs w0 c s Q := fun a w hR => by
 unfold afterD at h
 split at h
 ·rename_i e1 s1 h1
  split at h
  ·rename_i s2 h2
   injection h with h; injection h with h3 h4; subst h4; subst h3
   exact hW a w (after_ok h2 (dpS_ok h1 (fun q hq => by obtain ⟨n, _, rfl⟩ := List.mem_map.1 hq; rfl) hR))
  ·cases h
 ·cases h
theorem W_weak {c : Code} (h : W P N bs w0 c s (fun ex s1 => ∃ (ds : List Dpo) (es : List Nat) (cs : List Co) (live objs : List Nat) (s' : S), afterD ds cs live objs s1 = some (es.map fun n => (n, n), s') ∧ Q ex s')) : W P N bs w0 c s Q := fun a w hR => by
 refine Go.wp_mono (h a w hR) fun ex a' w' ⟨s1, ⟨ds, es, cs, live, objs, s', h1, hq⟩, hr⟩ => ⟨s', hq, ?_⟩
 unfold afterD at h1
 split at h1
 ·rename_i e1 s2 h2
  split at h1
  ·rename_i s3 h3
   injection h1 with h1; injection h1 with h4 h5; subst h5; subst h4
   exact after_ok h3 (dpS_ok h2 (fun q hq => by obtain ⟨n, _, rfl⟩ := List.mem_map.1 hq; rfl) hr)
  ·cases h1
 ·cases h1
end
end Go.Sx
end
section
namespace Go.Sx
open Go.RowKit Go.Ch
section
variable {P : Program} {T : Tab} {ρ : Pls} {w w' : World}
structure RdV (α : Type) where
 rd : Hp → AV → Option α
 op : Nat → α → AV
 os : Nat → α → List Oj
 pr : α → Prop
 ok : ∀ {ρ : Pls} {w : World} {H : Hp} {x : AV} {a : α} {v : Value}, HpR ρ w H → rd H x = some a → avR ρ x v → pr a ∧ ∃ ps : List Pl, (∀ k, (os k a).length = ps.length ∧ allRo (os k a) = true) ∧ (∀ k (j : Nat) (o : Oj) (p : Pl) (g : Nat), (os k a)[j]? = some o → ps[j]? = some p → objAt p o g → atB ρ H g) ∧ ∀ (k : Nat) (ρ' : Pls), Pat ps k ρ' → F2 (fun o p => objR ρ' w p o) (os k a) ps ∧ avR ρ' (op k a) v
variable {f : FuncId} {az : List AV} {os : Hp}
end
end Go.Sx
end
section
namespace Go.Sx
open Go Go.RowKit Go.Ch
def lastS {α : Type} : List α → Option (List α × α)
 | [] => none
 | x :: l => some (match lastS l with | none => ([], x) | some (a, b) => (x :: a, b))
theorem lastS_ok {α : Type} : ∀ {l : List α} {p : List α × α}, lastS l = some p → l = p.1 ++ [p.2]
 | [], _, h => nomatch h
 | x :: l, p, h => by
  simp only [lastS, Option.some.injEq] at h
  subst h
  cases hl : lastS l with
  | none =>
   cases l with
   | nil => rfl
   | cons y l => simp [lastS] at hl
  | some q => show x :: l = x :: q.1 ++ [q.2]; rw [List.cons_append, ← lastS_ok hl]
theorem lastS_app {α : Type} {y : α} : ∀ {l : List α}, lastS (l ++ [y]) = some (l, y)
 | [] => rfl
 | x :: l => by simp only [List.cons_append, lastS, lastS_app (l := l)]
theorem mgA {p : Prop} (k : Nat) (h : p) : k = k ∧ p := ⟨rfl, h⟩
section
variable {P : Program} {ρ : Pls} {w : World} {bs : Bs} {w0 : World} {s s' : S} {a : Act} {N : Nat} {Q : Exit → S → Prop}
theorem W_rel {c : Code} (h : ∀ a w, Rel N bs w0 s a w → Rel N bs w0 s' a w) (hW : W P N bs w0 c s' Q) : W P N bs w0 c s Q := fun a w hR => hW a w (h a w hR)
def popS (i : Nat) (x : Dsh) (L0 : List x.T) (y : x.T) (s : S) : Option (((x : Dsh) × List x.T) × Nat × S) := match ghW s.H i, okS s with
 | some q, true => (match q.tl, ogBody x y, Nat.beq q.x.sz x.sz with
  | [], some (eb, l), true => some (⟨q.x, q.l⟩, q.n, ⟨s.fr, s.gl, (killH s.H q.j ++ [(⟨.og, q.og.e, q.og.sz, L0.length, .d x L0⟩ : Oj), ⟨.row, eb, 1, l.length, .b l⟩]).set i ⟨.row, q.o.e, q.o.sz, q.o.n, .g s.H.length L0.length q.o.sz (ogCells (s.H.length + 1) x y)⟩⟩)
  | _, _, _ => none)
 | _, _ => none
theorem W_pop {c : Code} (i : Nat) (x : Dsh) {L : List x.T} {p : List x.T × x.T} (hL : lastS L = some p) (s' : S) (hW : W P N bs w0 c s' Q) (h : popS i x p.1 p.2 s = some (⟨x, L⟩, L.length, s') := by kernel_rfl) : W P N bs w0 c s Q := by
 refine W_rel (fun a w hR => ?_) hW
 obtain ⟨r1, r2, ρ, r3⟩ := hR
 refine ⟨r1, r2, ?_⟩
 unfold popS at h
 split at h
 ·rename_i q hq hs
  split at h
  ·rename_i eb l htl hb hsz
   injection h with h; simp only [Prod.mk.injEq] at h; obtain ⟨h1, h2, rfl⟩ := h
   obtain ⟨o, j, n, tl, og, x', l'⟩ := q
   obtain ⟨q1, q2, q3, q4, q5, q6, q7, q8⟩ := ghW_ok hq
   simp only at q1 q2 q3 q4 q5 q6 q7 q8 htl h1 h2 ⊢
   obtain ⟨kd, e, sz, no, cs⟩ := o
   obtain ⟨kd', eg, szg, ng, cs'⟩ := og
   simp only at q1 q2 q3 q4 q5 q6 q7
   injection h1 with h3 h4
   subst h3
   obtain rfl := eq_of_heq h4
   subst q2; subst q3; subst q5; subst q6; subst q7; subst htl; subst h2
   have hl := lastS_ok hL
   exact r3.pop hs q8 q1 (L0 := p.1) (y := p.2) (by rw [q4, ← hl]) (by rw [← hl]) hb rfl
  ·cases h
 ·cases h
def cutS (i k : Nat) (s : S) : Option ((Nat × Nat) × S) := match live s.H i, okS s with
 | some o, true => (match o.cs with
  | .c l => (match l[k]? with
   | some (.pre j n) => (match s.H[j]?, decide (i ≠ j) with
    | some oj, true => (match oj.kd, oj.cs with
     | .row, .g g m sz _ => (match Nat.beq oj.sz sz with
      | true => some ((n, m), ⟨s.fr, s.gl, (killH s.H j ++ [(⟨.row, oj.e, oj.sz, m, .g g m oj.sz []⟩ : Oj)]).set i { o with cs := .c (l.set k (.wh s.H.length)) }⟩)
      | false => none)
     | _, _ => none)
    | _, _ => none)
   | _ => none)
  | _ => none)
 | _, _ => none
theorem RelA.cutG (r3 : RelA ρ bs w0 s a w) (hs : okS s = true) {j n g sz : Nat} {tl : List Cl} {o : Oj} (ho : s.H[j]? = some o) (hk : o.kd = .row) (hcs : o.cs = .g g n sz tl) (hsz : o.sz = sz) (hn : n ≤ o.n) :
  RelA (upd ρ s.H.length (plN (ρ j) n)) bs w0 ⟨s.fr, s.gl, killH s.H j ++ [(⟨.row, o.e, o.sz, n, .g g n o.sz []⟩ : Oj)]⟩ a w := by
 have hr := r3.hp j o ho
 have hlx := ltH_ok (okS_ok hs).2.2 j o ho (by rw [hk]; simp)
 subst hsz
 have hat : ∀ q, objAt (plN (ρ j) n) (⟨.row, o.e, o.sz, n, .g g n o.sz []⟩ : Oj) q → objAt (ρ j) o q := fun q h => by
  unfold objAt at h ⊢
  simp only [hk]
  exact h
 have hown : o.own = true := row_own hk
 have hlx' : ltX s.H.length (.g g n o.sz []) = true := by
  rw [hcs] at hlx
  simp only [ltX, Bool.and_eq_true] at hlx ⊢
  exact ⟨hlx.1, rfl⟩
 refine r3.new hs (o := ⟨.row, o.e, o.sz, n, .g g n o.sz []⟩) hlx' (killH_len s.H j) (fun i x hx => ?_) r3.kp ?_ (fun _ i x q hx hxk hg _ hg2 => ?_) (fun _ q hg => two3 (r3.own.o ho hown (hat q hg))) _ _ (fun t x hx => ltA_ok upd_lt (ltF_ok (okS_ok hs).1 t x hx) (r3.fr t x hx))
 ·rcases killH_at hx with hd | ⟨_, h1⟩
  ·exact .inl hd
  ·exact .inr ⟨h1, r3.hp i x h1⟩
 ·obtain ⟨⟨e1, e2, e3⟩, vs, hc, hrow⟩ := row_parts hr hk
  have hle : n * o.sz ≤ o.n * o.sz := Nat.mul_le_mul_right _ hn
  have hvl : vs.length = o.n * o.sz := by rw [hc.len, e3]
  refine row_of rfl ⟨⟨e1, rfl, ?_⟩, vs.take (n * o.sz), ?_, ?_, ?_⟩
  ·show (ghc _ _ _ ++ []).length = n * o.sz
   rw [List.append_nil, ghc_len]
  ·show F2 (clR ρ) (ghc g n o.sz ++ []) _
   rw [List.append_nil]
   rw [hcs] at hc
   have h1 := (show F2 (clR ρ) (ghc g n o.sz ++ tl) vs from hc).take (n * o.sz)
   rwa [List.take_left' (ghc_len _ _ _)] at h1
  ·show (vs.take (n * o.sz)).length = n * o.sz
   rw [List.length_take]; omega
  ·show ((Value.slice (ρ j).A n (ρ j).cap = .slice none 0 0 ∧ n = 0) ∨ _)
   rcases hrow.2 with ⟨hv, h0⟩ | ⟨q, cap, cur, hv, hb, hg, hnc, hcm, hsz, htk⟩
   ·injection hv with a1 a2 a3
    have : n = 0 := by omega
    subst this
    exact .inl ⟨by rw [a1, a3], rfl⟩
   ·injection hv with a1 a2 a3
    refine .inr ⟨q, cap, cur, by rw [a1, a3], hb, hg, ?_, hcm, hsz, ?_⟩
    ·show n ≤ cap; omega
    ·show cur.toList.take (n * o.sz) = _
     rw [← htk, List.take_take, e2, Nat.min_eq_left hle]
 ·rcases killH_at hx with hd | ⟨hij, h1⟩
  ·exact hxk hd
  ·exact r3.sep j i o x q (fun e => hij e.symm) ho h1 hown (hat q hg) hg2
theorem W_cutg {c : Code} (i k : Nat) {n m : Nat} (hn : n = m) (s' : S) (hW : W P N bs w0 c s' Q) (h : cutS i k s = some ((n, m), s') := by kernel_rfl) : W P N bs w0 c s Q := by
 refine W_rel (fun a w hR => ?_) hW
 obtain ⟨r1, r2, ρ, r3⟩ := hR
 refine ⟨r1, r2, ?_⟩
 subst hn
 unfold cutS at h
 split at h
 ·rename_i o ho0 hs
  obtain ⟨ho, hok⟩ := live_ok ho0
  split at h
  ·rename_i l hl
   split at h
   ·rename_i j n' hk
    split at h
    ·rename_i oj hoj hd
     simp only [decide_eq_true_eq] at hd
     split at h
     ·rename_i g m sz tl hkd hcs
      split at h
      ·rename_i hsz
       have hsz := Nat.eq_of_beq_eq_true hsz
       injection h with h; simp only [Prod.mk.injEq] at h; obtain ⟨⟨rfl, rfl⟩, rfl⟩ := h
       have hlt : i < s.H.length := (List.getElem?_eq_some_iff.1 ho).1
       have hn : m ≤ oj.n := by
        obtain ⟨_, vs, hc, _⟩ := (r3.hp i o ho).read hok
        rw [hl] at hc
        obtain ⟨v, _, hv⟩ := F2.at (show F2 (clR ρ) l vs from hc) hk
        have e2 := ((r3.hp j oj hoj).read (by rw [hkd]; simp)).1.2.1
        have := hv.1
        omega
       have hki : (killH s.H j)[i]? = some o := by
        unfold killH
        rw [hoj]
        show (s.H.set j _)[i]? = _
        rw [List.getElem?_set_ne (fun e => hd e.symm)]; exact ho
       refine ⟨_, (r3.cutG hs hoj hkd hcs hsz hn).recs (by show (killH s.H j ++ [_])[i]? = some o; rw [List.getElem?_append_left (by rw [killH_len]; exact hlt)]; exact hki) (fun vs hvs => ?_) ?_ (not_dp (r3.hp i o ho) hl)⟩
       ·rw [hl] at hvs
        have hvs' : F2 (clR (upd ρ s.H.length (plN (ρ j) m))) l vs := hvs
        show F2 (clR (upd ρ s.H.length (plN (ρ j) m))) (l.set k (.wh s.H.length)) vs
        refine ⟨by rw [List.length_set]; exact hvs'.1, fun q x y hx hy => ?_⟩
        rw [List.getElem?_set] at hx
        split at hx
        ·rename_i e2
         subst e2
         split at hx
         ·injection hx with hx; subst hx
          obtain ⟨_, h2⟩ := hvs'.2 k _ y hk hy
          show y = _
          rw [upd_at]
          rw [upd_lt j (List.getElem?_eq_some_iff.1 hoj).1] at h2
          exact h2
         ·cases hx
        ·exact hvs'.2 q x y hx hy
       ·rw [hl]; show (l.set k _).length = l.length; rw [List.length_set]
      ·cases h
     ·cases h
    ·cases h
   ·cases h
  ·cases h
 ·cases h
end
end Go.Sx
end
section
namespace Go.Proofs.Ytcdljciflkefaaa
open Go.RowKit Go.Ch Go.Sx
theorem cloneb_info : (Try.prog.info? 5).map (fun i => (i.zero, i.size, i.bytes)) = some (some (.int .u8 0), 1, 1) := by kernel_rfl
set_option maxHeartbeats 400000 in
set_option maxRecDepth 100000 in
theorem cloneb_c (w : World) (B : Nat) (v : Value) (l : List UInt8) (hv : Sl w B v (l.map bU)) (hl : l.length ≤ 1000000000000) :
  Calls Try.prog 35 #[v] w (Ret fun v' w' => Ext w w' ∧ Own w' w.heap.size 5 v' (l.map bU)) := by
 obtain ⟨i5, hi5, hz5, hs5, hb5⟩ := info_parts cloneb_info
 go_enter Try.func35, Try.ntmps35
 go_wp2_with (first
  | ((with_reducible refine g_at (d := 4) ?_); refine wpl_eq_nil rfl Try.underlying23 hv ?_; intro b4 hb4; try (conv in (Act.put _ _ _) => simp only [Act.put, List.setIfInBounds_toArray, List.set_cons_succ, List.set_cons_zero]))
  | ((with_reducible refine g_at (d := 5) ?_); refine wpl_buildSlice (vs := []) Try.underlying23 hi5 hz5 hs5 rfl (xs := []) rfl rfl rfl (by simp) (by omega) ?_; intro v5 w5 h5 hx5 ha5; try (conv in (Act.put _ _ _) => simp only [Act.put, List.setIfInBounds_toArray, List.set_cons_succ, List.set_cons_zero]))
  | ((with_reducible refine g_at (d := 7) ?_); refine wpl_append (v := v5) rfl rfl Try.underlying23 hi5 hz5 hs5 hb5 rfl h5 (hv.ext hx5) (bU_one l) (by first | omega | (simp <;> omega)) (by omega) hx5.size ?_; intro v7 w7 h7 hg7 ha7 hx7; try (conv in (Act.put _ _ _) => simp only [Act.put, List.setIfInBounds_toArray, List.set_cons_succ, List.set_cons_zero])))
 ·go_ret
  have := hb4 (by assumption)
  exact ⟨_, rfl, Below.refl _ _, by rw [this]; exact World.ownsRow_nil _ _ _ _⟩
 ·go_ret
  exact ⟨_, rfl, hx5.trans hx7, by simpa using h7⟩
def cloneb_ct : Ct := fun args H => match args with
 | [x] => (match aB H x with | some l => some ([l.length ≤ 1000000000000], .c (.wh H.length), [⟨.row, 5, 1, l.length, .b l⟩]) | none => none)
 | _ => none
theorem cloneb_h : FnOk Try.prog Tr 35 cloneb_ct := by
 refine ⟨fun args H g av objs hF hg ρ w vals hG hp ha => ?_, _, Try.func35, by kernel_rfl, by kernel_rfl⟩
 unfold cloneb_ct at hF
 split at hF
 ·split at hF
  ·rename_i x l hl
   simp only [Option.some.injEq, Prod.mk.injEq] at hF
   obtain ⟨rfl, rfl, rfl⟩ := hF
   obtain ⟨v, vals, rfl, k, ha⟩ := F2.inv ha
   obtain rfl := F2.inv0 ha
   obtain ⟨p, hI⟩ := aB_ok hp hl k 5
   have hb : l.length ≤ 1000000000000 := by simpa [allP] using hg
   exact calls_mono (cloneb_c w _ v l (hI.sl (fun _ _ h => csR_b.1 h) (by simp)) hb) fun v w' ⟨hx, hv⟩ => ⟨hx, left_row hv (fun _ => csR_b.2 rfl) (by simp)⟩
  ·cases hF
 ·cases hF
end Go.Proofs.Ytcdljciflkefaaa
end
section
namespace Go.Proofs.Ytcdljciflkefaaa
open Go.RowKit Go.Ch Go.Sx
def tabL_nra : List (TypeId × Ti) := [(3, ⟨.int .i64, 1, 8, true, some [.int .i64]⟩),
 (5, ⟨.int .u8, 1, 1, true, some [.int .u8]⟩),
 (23, ⟨.sl 5, 1, 24, false, some [.nils]⟩),
 (29, ⟨.int .i64, 1, 8, true, some [.int .i64]⟩),
 (47, ⟨.ptr 68, 1, 8, true, some [.ptr]⟩),
 (66, ⟨.sl 3, 1, 24, false, some [.nils]⟩),
 (68, ⟨.st [(23, 0), (3, 1), (66, 2)], 3, 56, false, some [.nils, .int .i64, .nils]⟩)]
def tab_nra : Tab := fun t => (tabL_nra).lookup t
theorem tabE_nra : (tabL_nra.map fun p => tiOf Try.prog p.1) = tabL_nra.map fun p => some p.2 := by kernel_rfl
theorem tabO_nra : TabOk Try.prog tab_nra := tab_of tabE_nra
def tvalid (n : Nat) (a0 : UInt8) : Option (Bool) :=
 some ((a0 &&& (31 : UInt8)) != 31)
def tisW (n : Nat) (a0 : UInt8) : Option (Bool) :=
 some ((a0 &&& (32 : UInt8)) != 0)
def thead_j1 (n : Nat) (a0 : List UInt8) (i5_1 : Int) (i6_4 : Int) : Option (Int × Int × Bool) :=
 gd (okI .i64 (((a0.length : Nat) : Int) - i5_1)) <|
 some (i5_1, i6_4, (decide (i6_4 ≤ (((a0.length : Nat) : Int) - i5_1))))
def thead_l1 (n : Nat) (a0 : List UInt8) : Nat → Int → Int → Option (Int × Int × Bool)
 | 0, _, _ => none
 | fu_l1 + 1, i6_5, i47_3 =>
 bif (decide (i47_3 < (((((2 + ((((a0.getD 1 0).toNat : Nat) : Int) - 128)).toNat) - 2) : Nat) : Int))) then
 gd (0 ≤ i47_3) <|
 gd (i47_3 < (((((2 + ((((a0.getD 1 0).toNat : Nat) : Int) - 128)).toNat) - 2) : Nat) : Int)) <|
 gd (0 ≤ (8 : Int)) <|
 gd ((8 : Int) ≤ (((IntKind.i64).bits : Nat) : Int)) <|
 gd (okI .i64 (i6_5 * 2 ^ 8)) <|
 gd (okI .i64 (i47_3 + 1)) <|
 (thead_l1 n a0 fu_l1) (bitI .or .i64 (i6_5 * 2 ^ 8) (((((a0.drop 2).take (((2 + ((((a0.getD 1 0).toNat : Nat) : Int) - 128)).toNat) - 2)).getD i47_3.toNat 0).toNat : Nat) : Int)) (i47_3 + 1)
 else
 bif (decide (i6_5 < (128 : Int))) then
 some (0, 0, false)
 else
 bif (((((a0.getD 1 0).toNat : Nat) : Int) - 128) == 2) then
 bif (decide (i6_5 < (256 : Int))) then
 some (0, 0, false)
 else
 thead_j1 n a0 (2 + ((((a0.getD 1 0).toNat : Nat) : Int) - 128)) i6_5
 else
 thead_j1 n a0 (2 + ((((a0.getD 1 0).toNat : Nat) : Int) - 128)) i6_5
def thead (n : Nat) (a0 : List UInt8) : Option (Int × Int × Bool) :=
 bif (decide (((a0.length : Nat) : Int) < (2 : Int))) then
  some (0, 0, false)
 else
  gd (0 ≤ (0 : Int)) <|
  gd ((0 : Int) < ((a0.length : Nat) : Int)) <|
  (tvalid n (a0.getD 0 0)).bind fun r17 =>
  bif (!r17) then
   some (0, 0, false)
  else
   gd (0 ≤ (1 : Int)) <|
   gd ((1 : Int) < ((a0.length : Nat) : Int)) <|
   bif (decide ((128 : Int) ≤ (((a0.getD 1 0).toNat : Nat) : Int))) then
    gd (okI .i64 ((((a0.getD 1 0).toNat : Nat) : Int) - 128)) <|
    bif (decide (((((a0.getD 1 0).toNat : Nat) : Int) - 128) < (1 : Int))) then
     some (0, 0, false)
    else
     bif (decide ((2 : Int) < ((((a0.getD 1 0).toNat : Nat) : Int) - 128))) then
      some (0, 0, false)
     else
      gd (okI .i64 (2 + ((((a0.getD 1 0).toNat : Nat) : Int) - 128))) <|
      bif (decide (((a0.length : Nat) : Int) < (2 + ((((a0.getD 1 0).toNat : Nat) : Int) - 128)))) then
       some (0, 0, false)
      else
       gd (okI .i64 (2 + ((((a0.getD 1 0).toNat : Nat) : Int) - 128))) <|
       gd (0 ≤ (2 : Int)) <|
       gd ((2 : Int) ≤ (2 + ((((a0.getD 1 0).toNat : Nat) : Int) - 128))) <|
       gd ((2 + ((((a0.getD 1 0).toNat : Nat) : Int) - 128)) ≤ ((a0.length : Nat) : Int)) <|
       thead_l1 n a0 n 0 0
   else
    thead_j1 n a0 2 (((a0.getD 1 0).toNat : Nat) : Int)
def tHead (n : Nat) (a0 : UInt8) (a1 : Int) : Option (List UInt8 × Option Int) :=
 (tvalid n a0).bind fun r8 =>
 bif (!r8) then
  some ([], (some 1))
 else
  bif (decide (a1 < (0 : Int))) then
   some ([], (some 1))
  else
   bif (decide ((65535 : Int) < a1)) then
    some ([], (some 4))
   else
    bif (decide (a1 < (128 : Int))) then
     some ([a0, (UInt8.ofInt a1)], none)
    else
     bif (decide (a1 < (256 : Int))) then
      some ([a0, 129, (UInt8.ofInt a1)], none)
     else
      gd (0 ≤ (8 : Int)) <|
      gd ((8 : Int) ≤ (((IntKind.i64).bits : Nat) : Int)) <|
      some ([a0, 130, (UInt8.ofInt (a1 / 2 ^ 8)), (UInt8.ofInt a1)], none)
def tNewR (n : Nat) (a0 : List UInt8) : Option (List UInt8 × List Int) :=
 gd ((a0).length ≤ 1000000000000) <|
 some (a0, [((a0.length : Nat) : Int)])
def tleft (n : Nat) (a0_0 : List UInt8) (a0_1 : Int) (a0_2 : List Int) : Option (Nat × Nat) :=
 gd (okI .i64 (((a0_2.length : Nat) : Int) - 1)) <|
 gd (0 ≤ (((a0_2.length : Nat) : Int) - 1)) <|
 gd ((((a0_2.length : Nat) : Int) - 1) < ((a0_2.length : Nat) : Int)) <|
 gd (0 ≤ a0_1) <|
 gd (a0_1 ≤ (a0_2.getD ((((a0_2.length : Nat) : Int) - 1).toNat) 0)) <|
 gd ((a0_2.getD ((((a0_2.length : Nat) : Int) - 1).toNat) 0) ≤ ((a0_0.length : Nat) : Int)) <|
 some (a0_1.toNat, (((a0_2.getD ((((a0_2.length : Nat) : Int) - 1).toNat) 0).toNat) - a0_1.toNat))
def tNext (n : Nat) (a0_0 : List UInt8) (a0_1 : Int) (a0_2 : List Int) : Option (UInt8 × Bool) :=
 (tleft n a0_0 a0_1 a0_2).bind fun r6 =>
 bif (((r6.2 : Nat) : Int) == 0) then
  some (0, false)
 else
  gd (0 ≤ (0 : Int)) <|
  gd ((0 : Int) < ((r6.2 : Nat) : Int)) <|
  some ((a0_0.getD (oddA r6.1 0) 0), true)
def tTake (n : Nat) (a0_0 : List UInt8) (a0_1 : Int) (a0_2 : List Int) (a1 : UInt8) : Option (Int × List UInt8 × Option Int) :=
 (tleft n a0_0 a0_1 a0_2).bind fun r11 =>
 bif (((r11.2 : Nat) : Int) == 0) then
  some (a0_1, [], (some 13))
 else
  gd (0 ≤ (0 : Int)) <|
  gd ((0 : Int) < ((r11.2 : Nat) : Int)) <|
  bif ((a0_0.getD (oddA r11.1 0) 0) != a1) then
   some (a0_1, [], (some 6))
  else
   (thead n ((a0_0.drop r11.1).take r11.2)).bind fun r26 =>
   bif (!r26.2.2) then
    some (a0_1, [], (some 2))
   else
    (tisW n a1).bind fun r34 =>
    bif r34 then
     some (a0_1, [], (some 2))
    else
     gd (okI .i64 (r26.1 + r26.2.1)) <|
     gd (okI .i64 (a0_1 + (r26.1 + r26.2.1))) <|
     gd (okI .i64 (r26.1 + r26.2.1)) <|
     gd (0 ≤ r26.1) <|
     gd (r26.1 ≤ (r26.1 + r26.2.1)) <|
     gd ((r26.1 + r26.2.1) ≤ ((r11.2 : Nat) : Int)) <|
     gd ((((a0_0.drop (oddA r11.1 r26.1.toNat)).take (((r26.1 + r26.2.1).toNat) - r26.1.toNat))).length ≤ 1000000000000) <|
     some ((a0_1 + (r26.1 + r26.2.1)), ((a0_0.drop (oddA r11.1 r26.1.toNat)).take (((r26.1 + r26.2.1).toNat) - r26.1.toNat)), none)
def tEnter (n : Nat) (a0_0 : List UInt8) (a0_1 : Int) (a0_2 : List Int) (a1 : UInt8) : Option (Int × List Int × Option Int) :=
 (tleft n a0_0 a0_1 a0_2).bind fun r10 =>
 bif (((r10.2 : Nat) : Int) == 0) then
  some (a0_1, a0_2, (some 13))
 else
  gd (0 ≤ (0 : Int)) <|
  gd ((0 : Int) < ((r10.2 : Nat) : Int)) <|
  bif ((a0_0.getD (oddA r10.1 0) 0) != a1) then
   some (a0_1, a0_2, (some 6))
  else
   (thead n ((a0_0.drop r10.1).take r10.2)).bind fun r25 =>
   bif (!r25.2.2) then
    some (a0_1, a0_2, (some 2))
   else
    (tisW n a1).bind fun r34 =>
    bif (!r34) then
     some (a0_1, a0_2, (some 2))
    else
     bif (decide ((24 : Int) < ((a0_2.length : Nat) : Int))) then
      some (a0_1, a0_2, (some 5))
     else
      gd (okI .i64 (a0_1 + r25.1)) <|
      gd (okI .i64 ((a0_1 + r25.1) + r25.2.1)) <|
      gd (rmB (a0_2.length + 1) 8) <|
      some ((a0_1 + r25.1), (a0_2 ++ [((a0_1 + r25.1) + r25.2.1)]), none)
def tLeave (n : Nat) (a0_0 : List UInt8) (a0_1 : Int) (a0_2 : List Int) : Option (List Int × Option Int) :=
 bif (((a0_2.length : Nat) : Int) == 1) then
  some (a0_2, (some 17))
 else
  (tleft n a0_0 a0_1 a0_2).bind fun r13 =>
  bif (decide ((0 : Int) < ((r13.2 : Nat) : Int))) then
   some (a0_2, (some 3))
  else
   gd (okI .i64 (((a0_2.length : Nat) : Int) - 1)) <|
   gd (0 ≤ (((a0_2.length : Nat) : Int) - 1)) <|
   gd ((((a0_2.length : Nat) : Int) - 1) ≤ ((a0_2.length : Nat) : Int)) <|
   some ((a0_2.take ((((a0_2.length : Nat) : Int) - 1).toNat)), none)
def tEnd (n : Nat) (a0_0 : List UInt8) (a0_1 : Int) (a0_2 : List Int) : Option (Option Int) :=
 bif (decide ((1 : Int) < ((a0_2.length : Nat) : Int))) then
  some (some 17)
 else
  (tleft n a0_0 a0_1 a0_2).bind fun r13 =>
  bif (decide ((0 : Int) < ((r13.2 : Nat) : Int))) then
   some (some 3)
  else
   some none
def tvalid_R (r : Bool) : S := ⟨[(2, kB r)], [], []⟩
def tvalid_ct (n : Nat) (r : Bool) : Ct := ctc rU8.rd fun _ l0 => ct0 fun H => ([tvalid n l0 = some r], shA H.length (kB r), shH H.length [])
theorem tvalid_ok (n : Nat) (r : Bool) : FnOk Try.prog Tr 29 (tvalid_ct n r) := by
 refine fnok Try.func29 ?_
 refine HO_c rU8 fun l0 _ => HO_0 tabO_nra (tvalid_R r) [.tmp 2] [] 6 Try.func29 fun w hG h => ?_
 unfold tvalid at h
 have hT := tabO_nra
 refine Vrs hT [] ⟨[(0, kU l0)], [], []⟩ ?_
 refine Vrs hT [] ⟨[(2, kB ((l0 &&& (31 : UInt8)) != 31))], [], []⟩ ?_
 refine Vc [] [] (tvalid_R ((l0 &&& (31 : UInt8)) != 31)) (W_ret ?_)
 exact ⟨.inl rfl, by cases h; rfl⟩
def tisW_R (r : Bool) : S := ⟨[(2, kB r)], [], []⟩
def tisW_ct (n : Nat) (r : Bool) : Ct := ctc rU8.rd fun _ l0 => ct0 fun H => ([tisW n l0 = some r], shA H.length (kB r), shH H.length [])
theorem tisW_ok (n : Nat) (r : Bool) : FnOk Try.prog Tr 30 (tisW_ct n r) := by
 refine fnok Try.func30 ?_
 refine HO_c rU8 fun l0 _ => HO_0 tabO_nra (tisW_R r) [.tmp 2] [] 6 Try.func30 fun w hG h => ?_
 unfold tisW at h
 have hT := tabO_nra
 refine Vrs hT [] ⟨[(0, kU l0)], [], []⟩ ?_
 refine Vrs hT [] ⟨[(2, kB ((l0 &&& (32 : UInt8)) != 0))], [], []⟩ ?_
 refine Vc [] [] (tisW_R ((l0 &&& (32 : UInt8)) != 0)) (W_ret ?_)
 exact ⟨.inl rfl, by cases h; rfl⟩
def thead_j1_E (a0 : List UInt8) (i5_1 : Int) (i6_4 : Int) : S := ⟨[(0, kH 0), (5, kI i5_1), (6, kI i6_4)], [], [ob 5 a0]⟩
abbrev thead_j1_P (n : Nat) (a0 : List UInt8) (r : Int × Int × Bool) : S → Prop := fun s => ∃ (i5_1 : Int), ∃ (i6_4 : Int), s = thead_j1_E a0 i5_1 i6_4 ∧ thead_j1 n a0 i5_1 i6_4 = some r
def thead_l1_E (a0 : List UInt8) (i6_5 : Int) (i47_3 : Int) : S := ⟨[(0, kH 0), (5, kI (2 + ((((a0.getD 1 0).toNat : Nat) : Int) - 128))), (6, kI i6_5), (7, kI ((((a0.getD 1 0).toNat : Nat) : Int) - 128)), (45, kH 1), (46, kI (((((2 + ((((a0.getD 1 0).toNat : Nat) : Int) - 128)).toNat) - 2) : Nat) : Int)), (47, kI i47_3)], [], [ob 5 a0, ⟨(.ro false), 5, 1, (((2 + ((((a0.getD 1 0).toNat : Nat) : Int) - 128)).toNat) - 2), .b ((a0.drop 2).take (((2 + ((((a0.getD 1 0).toNat : Nat) : Int) - 128)).toNat) - 2))⟩]⟩
abbrev thead_l1_P (n : Nat) (a0 : List UInt8) (r : Int × Int × Bool) (fu : Nat) : S → Prop := fun s => ∃ (i6_5 : Int), ∃ (i47_3 : Int), s = thead_l1_E a0 i6_5 i47_3 ∧ thead_l1 n a0 fu i6_5 i47_3 = some r
def thead_R (r : Int × Int × Bool) : S := ⟨[(2, kI r.1), (3, kI r.2.1), (4, kB r.2.2)], [], []⟩
def thead_ct (n : Nat) (r : Int × Int × Bool) : Ct := ctc (rB 5).rd fun _ l0 => ct0 fun H => ([thead n l0 = some r], shA H.length (.t [.c (.s (.k .i64 r.1)), .c (.s (.k .i64 r.2.1)), .c (.s (.b r.2.2))]), shH H.length [])
theorem thead_ok (n : Nat) (r : Int × Int × Bool) : FnOk Try.prog Tr 37 (thead_ct n r) := by
 refine fnok Try.func37 ?_
 refine HO_c (rB 5) fun l0 _ => HO_0 tabO_nra (thead_R r) [.tmp 2, .tmp 3, .tmp 4] [] 75 Try.func37 fun w hG h => ?_
 unfold thead at h
 have hT := tabO_nra
 refine Vrs hT [0] ⟨[(0, kH 0)], [], [ob 5 l0]⟩ ?_
 refine W_seq ?_
 refine W_seq ?_
 rcases Bool.eq_false_or_eq_true (decide (((l0.length : Nat) : Int) < (2 : Int))) with g1 | g1
 ·replace h := bif_t h g1
  refine Vg hT fN [(3, true)] [] [0] ⟨[(0, kH 0), (19, kB true)], [], [ob 5 l0]⟩ (aP g1 aN) ?_
  refine Vi (true) (fun _ => ?_) (fun hb => by cases hb)
  refine Vrs hT [] ⟨[(2, kI 0), (3, kI 0), (4, kB false)], [], []⟩ ?_
  refine Vc [] [] (thead_R (0, 0, false)) (W_ret ?_)
  exact ⟨.inl rfl, by cases h; rfl⟩
 ·replace h := bif_f h g1
  obtain ⟨g2, g3, h⟩ := gd2 h
  obtain ⟨r17, g4, h⟩ := bind_some' h
  refine Vg hT (fT 7 (tvalid_ok n r17) fN) [(3, false)] [] [0] ⟨[(0, kH 0), (19, kB (!r17))], [], [ob 5 l0]⟩ (aP g1 (aP g2 (aP g3 (aP g4 aN)))) ?_
  refine Vi ((!r17)) (fun g28 => ?_) (fun g28 => ?_)
  ·replace h := bif_t h g28
   refine Vrs hT [] ⟨[(2, kI 0), (3, kI 0), (4, kB false)], [], []⟩ ?_
   refine Vc [] [] (thead_R (0, 0, false)) (W_ret ?_)
   exact ⟨.inl rfl, by cases h; rfl⟩
  ·replace h := bif_f h g28
   refine W_skip ?_
   obtain ⟨g5, g6, h⟩ := gd2 h
   refine Vds hT fN 5 [] [(0, false), (5, false), (23, false)] [] [0] ⟨[(0, kH 0), (5, kI 2), (6, kI (((l0.getD 1 0).toNat : Nat) : Int))], [], [ob 5 l0]⟩ (aP g5 (aP g6 aN)) ?_
   refine W_join (thead_j1_P n l0 r) ?_ ?_
   ·rintro _ ⟨i5_1, i6_4, rfl, h⟩
    unfold thead_j1 at h
    obtain ⟨g7, h⟩ := gd_some h
    refine Vgs hT fN [] [] [] ⟨[(2, kI i5_1), (3, kI i6_4), (4, kB (decide (i6_4 ≤ (((l0.length : Nat) : Int) - i5_1))))], [], []⟩ (aP g7 aN) ?_
    refine Vc [] [] (thead_R (i5_1, i6_4, (decide (i6_4 ≤ (((l0.length : Nat) : Int) - i5_1))))) (W_ret ?_)
    exact ⟨.inl rfl, by cases h; rfl⟩
   ·refine W_seq ?_
    refine Vr hT [0] ⟨[(0, kH 0), (5, kI 2), (6, kI (((l0.getD 1 0).toNat : Nat) : Int)), (25, kB (decide ((128 : Int) ≤ (((l0.getD 1 0).toNat : Nat) : Int))))], [], [ob 5 l0]⟩ ?_
    refine Vi ((decide ((128 : Int) ≤ (((l0.getD 1 0).toNat : Nat) : Int)))) (fun g27 => ?_) (fun g27 => ?_)
    ·replace h := bif_t h g27
     obtain ⟨g8, h⟩ := gd_some h
     refine Vgs hT fN [] [] [0] ⟨[(0, kH 0), (7, kI ((((l0.getD 1 0).toNat : Nat) : Int) - 128))], [], [ob 5 l0]⟩ (aP g8 aN) ?_
     refine W_seq ?_
     refine W_seq ?_
     rcases Bool.eq_false_or_eq_true (decide (((((l0.getD 1 0).toNat : Nat) : Int) - 128) < (1 : Int))) with g9 | g9
     ·replace h := bif_t h g9
      refine Vg hT fN [(2, true)] [] [0] ⟨[(0, kH 0), (7, kI ((((l0.getD 1 0).toNat : Nat) : Int) - 128)), (40, kB true)], [], [ob 5 l0]⟩ (aP g9 aN) ?_
      refine Vi (true) (fun _ => ?_) (fun hb => by cases hb)
      refine Vrs hT [] ⟨[(2, kI 0), (3, kI 0), (4, kB false)], [], []⟩ ?_
      refine Vc [] [] (thead_R (0, 0, false)) (W_ret ?_)
      exact ⟨.inl rfl, by cases h; rfl⟩
     ·replace h := bif_f h g9
      rcases Bool.eq_false_or_eq_true (decide ((2 : Int) < ((((l0.getD 1 0).toNat : Nat) : Int) - 128))) with g10 | g10
      ·replace h := bif_t h g10
       refine Vg hT fN [(2, false), (6, true)] [] [0] ⟨[(0, kH 0), (7, kI ((((l0.getD 1 0).toNat : Nat) : Int) - 128)), (40, kB true)], [], [ob 5 l0]⟩ (aP g9 (aP g10 aN)) ?_
       refine Vi (true) (fun _ => ?_) (fun hb => by cases hb)
       refine Vrs hT [] ⟨[(2, kI 0), (3, kI 0), (4, kB false)], [], []⟩ ?_
       refine Vc [] [] (thead_R (0, 0, false)) (W_ret ?_)
       exact ⟨.inl rfl, by cases h; rfl⟩
      ·replace h := bif_f h g10
       obtain ⟨g11, h⟩ := gd_some h
       refine Vg hT fN [(2, false), (6, false)] [] [0] ⟨[(0, kH 0), (7, kI ((((l0.getD 1 0).toNat : Nat) : Int) - 128)), (40, kB (decide (((l0.length : Nat) : Int) < (2 + ((((l0.getD 1 0).toNat : Nat) : Int) - 128)))))], [], [ob 5 l0]⟩ (aP g9 (aP g10 (aP g11 aN))) ?_
       refine Vi ((decide (((l0.length : Nat) : Int) < (2 + ((((l0.getD 1 0).toNat : Nat) : Int) - 128))))) (fun g26 => ?_) (fun g26 => ?_)
       ·replace h := bif_t h g26
        refine Vrs hT [] ⟨[(2, kI 0), (3, kI 0), (4, kB false)], [], []⟩ ?_
        refine Vc [] [] (thead_R (0, 0, false)) (W_ret ?_)
        exact ⟨.inl rfl, by cases h; rfl⟩
       ·replace h := bif_f h g26
        refine W_skip ?_
        obtain ⟨g12, h⟩ := gd_some h
        refine Vgs hT fN [] [] [0] ⟨[(0, kH 0), (5, kI (2 + ((((l0.getD 1 0).toNat : Nat) : Int) - 128))), (6, kI 0), (7, kI ((((l0.getD 1 0).toNat : Nat) : Int) - 128))], [], [ob 5 l0]⟩ (aP g12 aN) ?_
        refine W_seq ?_
        obtain ⟨g13, g14, g15, h⟩ := gd3 h
        refine Vgs hT fN [] [] [0] ⟨[(0, kH 0), (5, kI (2 + ((((l0.getD 1 0).toNat : Nat) : Int) - 128))), (6, kI 0), (7, kI ((((l0.getD 1 0).toNat : Nat) : Int) - 128)), (45, .c (.sl 0 2 (((2 + ((((l0.getD 1 0).toNat : Nat) : Int) - 128)).toNat) - 2))), (46, kI (((((2 + ((((l0.getD 1 0).toNat : Nat) : Int) - 128)).toNat) - 2) : Nat) : Int)), (47, kI 0)], [], [ob 5 l0]⟩ (aP g13 (aP g14 (aP g15 aN))) ?_
        refine W_block ?_
        refine Vc [.vw 45 false] [0, 1] (thead_l1_E l0 0 0) (W_lp ((thead_l1_P n l0 r)) n ⟨_, _, rfl, h⟩ ?_)
        rintro fu_l1 _ ⟨i6_5, i47_3, rfl, h⟩
        cases fu_l1 with
        | zero => cases h
        | succ fu_l1 =>
         refine ⟨fu_l1, rfl, ?_⟩
         rw [thead_l1] at h
         refine Vrs hT [0, 1] ⟨[(0, kH 0), (5, kI (2 + ((((l0.getD 1 0).toNat : Nat) : Int) - 128))), (6, kI i6_5), (7, kI ((((l0.getD 1 0).toNat : Nat) : Int) - 128)), (45, kH 1), (46, kI (((((2 + ((((l0.getD 1 0).toNat : Nat) : Int) - 128)).toNat) - 2) : Nat) : Int)), (47, kI i47_3), (48, kB (decide (i47_3 < (((((2 + ((((l0.getD 1 0).toNat : Nat) : Int) - 128)).toNat) - 2) : Nat) : Int))))], [], [ob 5 l0, ⟨(.ro false), 5, 1, (((2 + ((((l0.getD 1 0).toNat : Nat) : Int) - 128)).toNat) - 2), .b ((l0.drop 2).take (((2 + ((((l0.getD 1 0).toNat : Nat) : Int) - 128)).toNat) - 2))⟩]⟩ ?_
         refine W_seq ?_
         refine Vi ((decide (i47_3 < (((((2 + ((((l0.getD 1 0).toNat : Nat) : Int) - 128)).toNat) - 2) : Nat) : Int)))) (fun g25 => ?_) (fun g25 => ?_)
         ·replace h := bif_t h g25
          refine W_skip ?_
          refine W_seq ?_
          refine W_block ?_
          obtain ⟨g16, g17, h⟩ := gd2 h
          refine Vgs hT fN [] [] [0, 1] ⟨[(0, kH 0), (5, kI (2 + ((((l0.getD 1 0).toNat : Nat) : Int) - 128))), (6, kI i6_5), (7, kI ((((l0.getD 1 0).toNat : Nat) : Int) - 128)), (9, kU (((l0.drop 2).take (((2 + ((((l0.getD 1 0).toNat : Nat) : Int) - 128)).toNat) - 2)).getD i47_3.toNat 0)), (45, kH 1), (46, kI (((((2 + ((((l0.getD 1 0).toNat : Nat) : Int) - 128)).toNat) - 2) : Nat) : Int)), (47, kI i47_3)], [], [ob 5 l0, ⟨(.ro false), 5, 1, (((2 + ((((l0.getD 1 0).toNat : Nat) : Int) - 128)).toNat) - 2), .b ((l0.drop 2).take (((2 + ((((l0.getD 1 0).toNat : Nat) : Int) - 128)).toNat) - 2))⟩]⟩ (aP g16 (aP g17 aN)) ?_
          obtain ⟨g18, g19, g20, h⟩ := gd3 h
          refine Vg hT fN [] [] [0, 1] ⟨[(0, kH 0), (5, kI (2 + ((((l0.getD 1 0).toNat : Nat) : Int) - 128))), (6, kI (bitI .or .i64 (i6_5 * 2 ^ 8) (((((l0.drop 2).take (((2 + ((((l0.getD 1 0).toNat : Nat) : Int) - 128)).toNat) - 2)).getD i47_3.toNat 0).toNat : Nat) : Int))), (7, kI ((((l0.getD 1 0).toNat : Nat) : Int) - 128)), (45, kH 1), (46, kI (((((2 + ((((l0.getD 1 0).toNat : Nat) : Int) - 128)).toNat) - 2) : Nat) : Int)), (47, kI i47_3)], [], [ob 5 l0, ⟨(.ro false), 5, 1, (((2 + ((((l0.getD 1 0).toNat : Nat) : Int) - 128)).toNat) - 2), .b ((l0.drop 2).take (((2 + ((((l0.getD 1 0).toNat : Nat) : Int) - 128)).toNat) - 2))⟩]⟩ (aP g18 (aP g19 (aP g20 aN))) ?_
          obtain ⟨g21, h⟩ := gd_some h
          refine Vg hT fN [] [] [0, 1] (thead_l1_E l0 (bitI .or .i64 (i6_5 * 2 ^ 8) (((((l0.drop 2).take (((2 + ((((l0.getD 1 0).toNat : Nat) : Int) - 128)).toNat) - 2)).getD i47_3.toNat 0).toNat : Nat) : Int)) (i47_3 + 1)) (aP g21 aN) ?_
          exact ⟨_, _, rfl, h⟩
         ·replace h := bif_f h g25
          refine Vc [] [0] ⟨[(0, kH 0), (5, kI (2 + ((((l0.getD 1 0).toNat : Nat) : Int) - 128))), (6, kI i6_5), (7, kI ((((l0.getD 1 0).toNat : Nat) : Int) - 128))], [], [ob 5 l0]⟩ (W_exit ?_)
          refine W_seq ?_
          rcases Bool.eq_false_or_eq_true (decide (i6_5 < (128 : Int))) with g22 | g22
          ·replace h := bif_t h g22
           refine Vg hT fN [(2, true)] [] [0] ⟨[(0, kH 0), (5, kI (2 + ((((l0.getD 1 0).toNat : Nat) : Int) - 128))), (6, kI i6_5), (66, kB true)], [], [ob 5 l0]⟩ (aP g22 aN) ?_
           refine Vi (true) (fun _ => ?_) (fun hb => by cases hb)
           refine Vrs hT [] ⟨[(2, kI 0), (3, kI 0), (4, kB false)], [], []⟩ ?_
           refine Vc [] [] (thead_R (0, 0, false)) (W_ret ?_)
           exact ⟨.inl rfl, by cases h; rfl⟩
          ·replace h := bif_f h g22
           rcases Bool.eq_false_or_eq_true (((((l0.getD 1 0).toNat : Nat) : Int) - 128) == 2) with g23 | g23
           ·replace h := bif_t h g23
            refine Vg hT fN [(2, false), (5, true)] [] [0] ⟨[(0, kH 0), (5, kI (2 + ((((l0.getD 1 0).toNat : Nat) : Int) - 128))), (6, kI i6_5), (66, kB (decide (i6_5 < (256 : Int))))], [], [ob 5 l0]⟩ (aP g22 (aP g23 aN)) ?_
            refine Vi ((decide (i6_5 < (256 : Int)))) (fun g24 => ?_) (fun g24 => ?_)
            ·replace h := bif_t h g24
             refine Vrs hT [] ⟨[(2, kI 0), (3, kI 0), (4, kB false)], [], []⟩ ?_
             refine Vc [] [] (thead_R (0, 0, false)) (W_ret ?_)
             exact ⟨.inl rfl, by cases h; rfl⟩
            ·replace h := bif_f h g24
             refine Vc [] [0] (thead_j1_E l0 (2 + ((((l0.getD 1 0).toNat : Nat) : Int) - 128)) i6_5) (W_skip ?_)
             exact ⟨_, _, rfl, h⟩
           ·replace h := bif_f h g23
            refine Vg hT fN [(2, false), (5, false)] [] [0] ⟨[(0, kH 0), (5, kI (2 + ((((l0.getD 1 0).toNat : Nat) : Int) - 128))), (6, kI i6_5), (66, kB false)], [], [ob 5 l0]⟩ (aP g22 (aP g23 aN)) ?_
            refine Vi (false) (fun hb => by cases hb) (fun _ => ?_)
            refine Vc [] [0] (thead_j1_E l0 (2 + ((((l0.getD 1 0).toNat : Nat) : Int) - 128)) i6_5) (W_skip ?_)
            exact ⟨_, _, rfl, h⟩
    ·replace h := bif_f h g27
     refine Vc [] [0] (thead_j1_E l0 2 (((l0.getD 1 0).toNat : Nat) : Int)) (W_skip ?_)
     exact ⟨_, _, rfl, h⟩
def tHead_R (r : List UInt8 × Option Int) : S := ⟨[(4, kH 0), (5, kE 29 r.2)], [], [nb 5 r.1]⟩
def tHead_ct (n : Nat) (r : List UInt8 × Option Int) : Ct := ctc rU8.rd fun _ l0 => ctc rI.rd fun _ l1 => ct0 fun H => ([tHead n l0 l1 = some r], shA H.length (.t [.c (.wh 0), .c (.s (.er 29 .i64 r.2))]), shH H.length [nb 5 r.1])
theorem tHead_ok (n : Nat) (r : List UInt8 × Option Int) : FnOk Try.prog Tr 8 (tHead_ct n r) := by
 refine fnok Try.func8 ?_
 refine HO_c rU8 fun l0 _ => HO_c rI fun l1 _ => HO_0 tabO_nra (tHead_R r) [.tmp 4, .tmp 5] [0] 40 Try.func8 fun w hG h => ?_
 unfold tHead at h
 have hT := tabO_nra
 refine Vrs hT [] ⟨[(0, kU l0), (1, kI l1)], [], []⟩ ?_
 refine W_seq ?_
 refine W_block ?_
 refine W_seq ?_
 obtain ⟨r8, g1, h⟩ := bind_some' h
 rcases Bool.eq_false_or_eq_true (!r8) with g2 | g2
 ·replace h := bif_t h g2
  refine Vg hT (fT 1 (tvalid_ok n r8) fN) [(3, true)] [] [] ⟨[(0, kU l0), (1, kI l1), (6, kB true)], [], []⟩ (aP g1 (aP g2 aN)) ?_
  refine Vi (true) (fun _ => ?_) (fun hb => by cases hb)
  refine Vrs hT [] ⟨[(4, .c (.nils)), (5, kE 29 (some 1))], [], []⟩ ?_
  refine Vc [.nil 4 5 1 (.b [])] [0] (tHead_R ([], (some 1))) (W_ret ?_)
  exact ⟨.inl rfl, by cases h; rfl⟩
 ·replace h := bif_f h g2
  refine Vg hT (fT 1 (tvalid_ok n r8) fN) [(3, false)] [] [] ⟨[(0, kU l0), (1, kI l1), (6, kB (decide (l1 < (0 : Int))))], [], []⟩ (aP g1 (aP g2 aN)) ?_
  refine Vi ((decide (l1 < (0 : Int)))) (fun g8 => ?_) (fun g8 => ?_)
  ·replace h := bif_t h g8
   refine Vrs hT [] ⟨[(4, .c (.nils)), (5, kE 29 (some 1))], [], []⟩ ?_
   refine Vc [.nil 4 5 1 (.b [])] [0] (tHead_R ([], (some 1))) (W_ret ?_)
   exact ⟨.inl rfl, by cases h; rfl⟩
  ·replace h := bif_f h g8
   refine Vrs hT [] ⟨[(0, kU l0), (1, kI l1), (15, kB (decide ((65535 : Int) < l1)))], [], []⟩ ?_
   refine Vi ((decide ((65535 : Int) < l1))) (fun g7 => ?_) (fun g7 => ?_)
   ·replace h := bif_t h g7
    refine Vrs hT [] ⟨[(4, .c (.nils)), (5, kE 29 (some 4))], [], []⟩ ?_
    refine Vc [.nil 4 5 1 (.b [])] [0] (tHead_R ([], (some 4))) (W_ret ?_)
    exact ⟨.inl rfl, by cases h; rfl⟩
   ·replace h := bif_f h g7
    refine Vrs hT [] ⟨[(0, kU l0), (1, kI l1), (19, kB (decide (l1 < (128 : Int))))], [], []⟩ ?_
    refine Vi ((decide (l1 < (128 : Int)))) (fun g6 => ?_) (fun g6 => ?_)
    ·replace h := bif_t h g6
     refine Vrs hT [0] ⟨[(4, kH 0), (5, .c (.s (.v .nilIface)))], [], [⟨.row, 5, 1, 2, .b [l0, (UInt8.ofInt l1)]⟩]⟩ ?_
     refine Vc [.er 5 29 .i64] [0] (tHead_R ([l0, (UInt8.ofInt l1)], none)) (W_ret ?_)
     exact ⟨.inl rfl, by cases h; rfl⟩
    ·replace h := bif_f h g6
     refine Vrs hT [] ⟨[(0, kU l0), (1, kI l1), (26, kB (decide (l1 < (256 : Int))))], [], []⟩ ?_
     refine Vi ((decide (l1 < (256 : Int)))) (fun g5 => ?_) (fun g5 => ?_)
     ·replace h := bif_t h g5
      refine Vrs hT [0] ⟨[(4, kH 0), (5, .c (.s (.v .nilIface)))], [], [⟨.row, 5, 1, 3, .b [l0, 129, (UInt8.ofInt l1)]⟩]⟩ ?_
      refine Vc [.er 5 29 .i64] [0] (tHead_R ([l0, 129, (UInt8.ofInt l1)], none)) (W_ret ?_)
      exact ⟨.inl rfl, by cases h; rfl⟩
     ·replace h := bif_f h g5
      refine W_skip ?_
      obtain ⟨g3, g4, h⟩ := gd2 h
      refine Vgs hT fN [] [] [0] ⟨[(4, kH 0), (5, .c (.s (.v .nilIface)))], [], [⟨.row, 5, 1, 4, .b [l0, 130, (UInt8.ofInt (l1 / 2 ^ 8)), (UInt8.ofInt l1)]⟩]⟩ (aP g3 (aP g4 aN)) ?_
      refine Vc [.er 5 29 .i64] [0] (tHead_R ([l0, 130, (UInt8.ofInt (l1 / 2 ^ 8)), (UInt8.ofInt l1)], none)) (W_ret ?_)
      exact ⟨.inl rfl, by cases h; rfl⟩
def tNewR_R (r : List UInt8 × List Int) : S := ⟨[(2, kP 0 0)], [], [⟨.blk, 68, 1, 3, .c [.wh 1, .s (.k .i64 0), .wh 2]⟩, nb 5 r.1, nz 3 r.2]⟩
def tNewR_ct (n : Nat) (r : List UInt8 × List Int) : Ct := ctc (rB 5).rd fun _ l0 => ct0 fun H => ([tNewR n l0 = some r], shA H.length (kP 0 0), shH H.length [⟨.blk, 68, 1, 3, .c [.wh 1, .s (.k .i64 0), .wh 2]⟩, nb 5 r.1, nz 3 r.2])
theorem tNewR_ok (n : Nat) (r : List UInt8 × List Int) : FnOk Try.prog Tr 23 (tNewR_ct n r) := by
 refine fnok Try.func23 ?_
 refine HO_c (rB 5) fun l0 _ => HO_0 tabO_nra (tNewR_R r) [.tmp 2] [0, 1, 2] 10 Try.func23 fun w hG h => ?_
 unfold tNewR at h
 have hT := tabO_nra
 refine Vrs hT [0] ⟨[(0, kH 0)], [], [ob 5 l0]⟩ ?_
 obtain ⟨g1, h⟩ := gd_some h
 refine Vgs hT (fT 1 cloneb_h fN) [] [] [3, 1, 2] ⟨[(2, kP 0 0)], [], [⟨.blk, 68, 1, 3, .c [.wh 1, .s (.k .i64 0), .wh 2]⟩, nb 5 l0, ⟨.row, 3, 1, 1, .z [((l0.length : Nat) : Int)]⟩]⟩ (aP g1 aN) ?_
 refine Vc [] [0, 1, 2] (tNewR_R (l0, [((l0.length : Nat) : Int)])) (W_ret ?_)
 exact ⟨.inl rfl, by cases h; rfl⟩
def tleft_R (a0_0 : List UInt8) (a0_1 : Int) (a0_2 : List Int) (r : Nat × Nat) : S := ⟨[(2, .c (.sl 1 r.1 r.2))], [(1000000, kP 0 0)], [⟨.blk, 68, 1, 3, .c [.wh 1, .s (.k .i64 a0_1), .wh 2]⟩, nb 5 a0_0, nz 3 a0_2]⟩
def tleft_ct (n : Nat) (r : Nat × Nat) : CtM := ctM (cmm (mP 68 (mC (mB 5) (mC mI (mC (mZ 3) mN)))) fun y0 => cmR (tleft n y0.1 y0.2.1 y0.2.2.1 = some r) (.c (.sl 0 r.1 r.2)) [⟨.blk, 68, 1, 3, .c [.wh 0, .s (.k .i64 y0.2.1), .wh 1]⟩] [nb 5 y0.1, nz 3 y0.2.2.1])
theorem tleft_ok (n : Nat) (r : Nat × Nat) : FnMOk Try.prog 36 (tleft_ct n r) := by
 refine fnokM Try.func36 ?_
 refine HM_m (mP 68 (mC (mB 5) (mC mI (mC (mZ 3) mN)))) (fun (p0 : ((List UInt8) × (Int) × (List Int) × Unit)) => ?_) (allOwn_ok rfl)
 obtain ⟨l0_0, l0_1, l0_2, _⟩ := p0
 refine HM_0 tabO_nra (tleft_R l0_0 l0_1 l0_2 r) [.tmp 2] [0, 1, 2] 24 1 Try.func36 fun w bs h => ?_
 have h : tleft n l0_0 l0_1 l0_2 = some r := h
 unfold tleft at h
 have hT := tabO_nra
 refine Vrs hT [0, 1, 2] ⟨[(0, kP 0 0)], [(1000000, kP 0 0)], [⟨.blk, 68, 1, 3, .c [.wh 1, .s (.k .i64 l0_1), .wh 2]⟩, nb 5 l0_0, nz 3 l0_2]⟩ ?_
 obtain ⟨g1, g2, g3, g4, g5, h⟩ := gd5 h
 obtain ⟨g6, h⟩ := gd_some h
 refine Vds hT fN 20 [] [(6, false), (10, false), (22, false)] [] [0, 1, 2] ⟨[(2, .c (.sl 1 l0_1.toNat (((l0_2.getD ((((l0_2.length : Nat) : Int) - 1).toNat) 0).toNat) - l0_1.toNat)))], [(1000000, kP 0 0)], [⟨.blk, 68, 1, 3, .c [.wh 1, .s (.k .i64 l0_1), .wh 2]⟩, nb 5 l0_0, nz 3 l0_2]⟩ (aP g1 (aP g2 (aP g3 (aP g4 (aP g5 (aP g6 aN)))))) ?_
 refine Vc [] [0, 1, 2] (tleft_R l0_0 l0_1 l0_2 (l0_1.toNat, (((l0_2.getD ((((l0_2.length : Nat) : Int) - 1).toNat) 0).toNat) - l0_1.toNat))) (W_ret ?_)
 exact ⟨.inl rfl, by cases h; rfl⟩
def tNext_R (a0_0 : List UInt8) (a0_1 : Int) (a0_2 : List Int) (r : UInt8 × Bool) : S := ⟨[(2, kU r.1), (3, kB r.2)], [(1000000, kP 0 0)], [⟨.blk, 68, 1, 3, .c [.wh 1, .s (.k .i64 a0_1), .wh 2]⟩, nb 5 a0_0, nz 3 a0_2]⟩
def tNext_ct (n : Nat) (r : UInt8 × Bool) : CtM := ctM (cmm (mP 68 (mC (mB 5) (mC mI (mC (mZ 3) mN)))) fun y0 => cmR (tNext n y0.1 y0.2.1 y0.2.2.1 = some r) (.t [.c (.s (.u8 r.1)), .c (.s (.b r.2))]) [⟨.blk, 68, 1, 3, .c [.wh 0, .s (.k .i64 y0.2.1), .wh 1]⟩] [nb 5 y0.1, nz 3 y0.2.2.1])
theorem tNext_ok (n : Nat) (r : UInt8 × Bool) : FnMOk Try.prog 38 (tNext_ct n r) := by
 refine fnokM Try.func38 ?_
 refine HM_m (mP 68 (mC (mB 5) (mC mI (mC (mZ 3) mN)))) (fun (p0 : ((List UInt8) × (Int) × (List Int) × Unit)) => ?_) (allOwn_ok rfl)
 obtain ⟨l0_0, l0_1, l0_2, _⟩ := p0
 refine HM_0 tabO_nra (tNext_R l0_0 l0_1 l0_2 r) [.tmp 2, .tmp 3] [0, 1, 2] 13 1 Try.func38 fun w bs h => ?_
 have h : tNext n l0_0 l0_1 l0_2 = some r := h
 unfold tNext at h
 have hT := tabO_nra
 refine Vrs hT [0, 1, 2] ⟨[(0, kP 0 0)], [(1000000, kP 0 0)], [⟨.blk, 68, 1, 3, .c [.wh 1, .s (.k .i64 l0_1), .wh 2]⟩, nb 5 l0_0, nz 3 l0_2]⟩ ?_
 obtain ⟨r6, g1, h⟩ := bind_some' h
 refine Vgs hT (fM 1 (tleft_ok n r6) fN) [] [] [0, 3, 4] ⟨[(4, .c (.sl 1 r6.1 r6.2))], [(1000000, kP 0 0)], [⟨.blk, 68, 1, 3, .c [.wh 1, .s (.k .i64 l0_1), .wh 2]⟩, nb 5 l0_0, nz 3 l0_2]⟩ (aP g1 aN) ?_
 refine W_seq ?_
 refine Vrs hT [0, 1, 2] ⟨[(4, .c (.sl 1 r6.1 r6.2)), (9, kB (((r6.2 : Nat) : Int) == 0))], [(1000000, kP 0 0)], [⟨.blk, 68, 1, 3, .c [.wh 1, .s (.k .i64 l0_1), .wh 2]⟩, nb 5 l0_0, nz 3 l0_2]⟩ ?_
 refine Vi ((((r6.2 : Nat) : Int) == 0)) (fun g4 => ?_) (fun g4 => ?_)
 ·replace h := bif_t h g4
  refine Vrs hT [0, 1, 2] ⟨[(2, kU 0), (3, kB false)], [(1000000, kP 0 0)], [⟨.blk, 68, 1, 3, .c [.wh 1, .s (.k .i64 l0_1), .wh 2]⟩, nb 5 l0_0, nz 3 l0_2]⟩ ?_
  refine Vc [] [0, 1, 2] (tNext_R l0_0 l0_1 l0_2 (0, false)) (W_ret ?_)
  exact ⟨.inl rfl, by cases h; rfl⟩
 ·replace h := bif_f h g4
  refine W_skip ?_
  obtain ⟨g2, g3, h⟩ := gd2 h
  refine Vgs hT fN [] [] [0, 1, 2] ⟨[(2, kU (l0_0.getD (oddA r6.1 0) 0)), (3, kB true)], [(1000000, kP 0 0)], [⟨.blk, 68, 1, 3, .c [.wh 1, .s (.k .i64 l0_1), .wh 2]⟩, nb 5 l0_0, nz 3 l0_2]⟩ (aP g2 (aP g3 aN)) ?_
  refine Vc [] [0, 1, 2] (tNext_R l0_0 l0_1 l0_2 ((l0_0.getD (oddA r6.1 0) 0), true)) (W_ret ?_)
  exact ⟨.inl rfl, by cases h; rfl⟩
def tTake_R (a0_0 : List UInt8) (a0_2 : List Int) (r : Int × List UInt8 × Option Int) : S := ⟨[(4, kH 3), (5, kE 29 r.2.2)], [(1000000, kP 0 0)], [⟨.blk, 68, 1, 3, .c [.wh 1, .s (.k .i64 r.1), .wh 2]⟩, nb 5 a0_0, nz 3 a0_2, nb 5 r.2.1]⟩
def tTake_ct (n : Nat) (r : Int × List UInt8 × Option Int) : CtM := ctM (cmm (mP 68 (mC (mB 5) (mC mI (mC (mZ 3) mN)))) fun y0 => cmc rU8.rd fun l1 => cmR (tTake n y0.1 y0.2.1 y0.2.2.1 l1 = some r) (.t [.c (.wh 2), .c (.s (.er 29 .i64 r.2.2))]) [⟨.blk, 68, 1, 3, .c [.wh 0, .s (.k .i64 r.1), .wh 1]⟩] [nb 5 y0.1, nz 3 y0.2.2.1, nb 5 r.2.1])
theorem tTake_ok (n : Nat) (r : Int × List UInt8 × Option Int) : FnMOk Try.prog 28 (tTake_ct n r) := by
 refine fnokM Try.func28 ?_
 refine HM_m (mP 68 (mC (mB 5) (mC mI (mC (mZ 3) mN)))) (fun (p0 : ((List UInt8) × (Int) × (List Int) × Unit)) => ?_) (allOwn_ok rfl)
 obtain ⟨l0_0, l0_1, l0_2, _⟩ := p0
 refine HM_c rU8 fun l1 _ => HM_0 tabO_nra (tTake_R l0_0 l0_2 r) [.tmp 4, .tmp 5] [0, 1, 2, 3] 54 1 Try.func28 fun w bs h => ?_
 have h : tTake n l0_0 l0_1 l0_2 l1 = some r := h
 unfold tTake at h
 have hT := tabO_nra
 refine Vrs hT [0, 1, 2] ⟨[(0, kP 0 0), (1, kU l1)], [(1000000, kP 0 0)], [⟨.blk, 68, 1, 3, .c [.wh 1, .s (.k .i64 l0_1), .wh 2]⟩, nb 5 l0_0, nz 3 l0_2]⟩ ?_
 obtain ⟨r11, g1, h⟩ := bind_some' h
 refine Vgs hT (fM 1 (tleft_ok n r11) fN) [] [] [0, 3, 4] ⟨[(0, kP 0 0), (1, kU l1), (6, .c (.sl 1 r11.1 r11.2))], [(1000000, kP 0 0)], [⟨.blk, 68, 1, 3, .c [.wh 1, .s (.k .i64 l0_1), .wh 2]⟩, nb 5 l0_0, nz 3 l0_2]⟩ (aP g1 aN) ?_
 refine W_seq ?_
 refine W_block ?_
 refine Vrs hT [0, 1, 2] ⟨[(0, kP 0 0), (1, kU l1), (6, .c (.sl 1 r11.1 r11.2)), (12, kB (((r11.2 : Nat) : Int) == 0))], [(1000000, kP 0 0)], [⟨.blk, 68, 1, 3, .c [.wh 1, .s (.k .i64 l0_1), .wh 2]⟩, nb 5 l0_0, nz 3 l0_2]⟩ ?_
 refine Vi ((((r11.2 : Nat) : Int) == 0)) (fun g16 => ?_) (fun g16 => ?_)
 ·replace h := bif_t h g16
  refine Vrs hT [0, 1, 2] ⟨[(4, .c (.nils)), (5, kE 29 (some 13))], [(1000000, kP 0 0)], [⟨.blk, 68, 1, 3, .c [.wh 1, .s (.k .i64 l0_1), .wh 2]⟩, nb 5 l0_0, nz 3 l0_2]⟩ ?_
  refine Vc [.nil 4 5 1 (.b [])] [0, 1, 2, 3] (tTake_R l0_0 l0_2 (l0_1, [], (some 13))) (W_ret ?_)
  exact ⟨.inl rfl, by cases h; rfl⟩
 ·replace h := bif_f h g16
  obtain ⟨g2, g3, h⟩ := gd2 h
  refine Vgs hT fN [] [] [0, 1, 2] ⟨[(0, kP 0 0), (1, kU l1), (6, .c (.sl 1 r11.1 r11.2)), (17, kB ((l0_0.getD (oddA r11.1 0) 0) != l1))], [(1000000, kP 0 0)], [⟨.blk, 68, 1, 3, .c [.wh 1, .s (.k .i64 l0_1), .wh 2]⟩, nb 5 l0_0, nz 3 l0_2]⟩ (aP g2 (aP g3 aN)) ?_
  refine Vi (((l0_0.getD (oddA r11.1 0) 0) != l1)) (fun g15 => ?_) (fun g15 => ?_)
  ·replace h := bif_t h g15
   refine Vrs hT [0, 1, 2] ⟨[(4, .c (.nils)), (5, kE 29 (some 6))], [(1000000, kP 0 0)], [⟨.blk, 68, 1, 3, .c [.wh 1, .s (.k .i64 l0_1), .wh 2]⟩, nb 5 l0_0, nz 3 l0_2]⟩ ?_
   refine Vc [.nil 4 5 1 (.b [])] [0, 1, 2, 3] (tTake_R l0_0 l0_2 (l0_1, [], (some 6))) (W_ret ?_)
   exact ⟨.inl rfl, by cases h; rfl⟩
  ·replace h := bif_f h g15
   refine W_skip ?_
   obtain ⟨r26, g4, h⟩ := bind_some' h
   refine Vgs hT (fT 1 (thead_ok n r26) fN) [] [] [0, 1, 2] ⟨[(0, kP 0 0), (1, kU l1), (6, .c (.sl 1 r11.1 r11.2)), (7, kI r26.1), (8, kI r26.2.1), (9, kB r26.2.2)], [(1000000, kP 0 0)], [⟨.blk, 68, 1, 3, .c [.wh 1, .s (.k .i64 l0_1), .wh 2]⟩, nb 5 l0_0, nz 3 l0_2]⟩ (aP g4 aN) ?_
   refine W_seq ?_
   refine W_seq ?_
   rcases Bool.eq_false_or_eq_true (!r26.2.2) with g5 | g5
   ·replace h := bif_t h g5
    refine Vg hT fN [(2, true)] [] [0, 1, 2] ⟨[(0, kP 0 0), (6, .c (.sl 1 r11.1 r11.2)), (7, kI r26.1), (8, kI r26.2.1), (35, kB true)], [(1000000, kP 0 0)], [⟨.blk, 68, 1, 3, .c [.wh 1, .s (.k .i64 l0_1), .wh 2]⟩, nb 5 l0_0, nz 3 l0_2]⟩ (aP g5 aN) ?_
    refine Vi (true) (fun _ => ?_) (fun hb => by cases hb)
    refine Vrs hT [0, 1, 2] ⟨[(4, .c (.nils)), (5, kE 29 (some 2))], [(1000000, kP 0 0)], [⟨.blk, 68, 1, 3, .c [.wh 1, .s (.k .i64 l0_1), .wh 2]⟩, nb 5 l0_0, nz 3 l0_2]⟩ ?_
    refine Vc [.nil 4 5 1 (.b [])] [0, 1, 2, 3] (tTake_R l0_0 l0_2 (l0_1, [], (some 2))) (W_ret ?_)
    exact ⟨.inl rfl, by cases h; rfl⟩
   ·replace h := bif_f h g5
    obtain ⟨r34, g6, h⟩ := bind_some' h
    refine Vg hT (fT 4 (tisW_ok n r34) fN) [(2, false)] [] [0, 1, 2] ⟨[(0, kP 0 0), (6, .c (.sl 1 r11.1 r11.2)), (7, kI r26.1), (8, kI r26.2.1), (35, kB r34)], [(1000000, kP 0 0)], [⟨.blk, 68, 1, 3, .c [.wh 1, .s (.k .i64 l0_1), .wh 2]⟩, nb 5 l0_0, nz 3 l0_2]⟩ (aP g5 (aP g6 aN)) ?_
    refine Vi (r34) (fun g14 => ?_) (fun g14 => ?_)
    ·replace h := bif_t h g14
     refine Vrs hT [0, 1, 2] ⟨[(4, .c (.nils)), (5, kE 29 (some 2))], [(1000000, kP 0 0)], [⟨.blk, 68, 1, 3, .c [.wh 1, .s (.k .i64 l0_1), .wh 2]⟩, nb 5 l0_0, nz 3 l0_2]⟩ ?_
     refine Vc [.nil 4 5 1 (.b [])] [0, 1, 2, 3] (tTake_R l0_0 l0_2 (l0_1, [], (some 2))) (W_ret ?_)
     exact ⟨.inl rfl, by cases h; rfl⟩
    ·replace h := bif_f h g14
     refine W_skip ?_
     obtain ⟨g7, g8, h⟩ := gd2 h
     refine Vgs hT fN [] [] [0, 1, 2] ⟨[(6, .c (.sl 1 r11.1 r11.2)), (7, kI r26.1), (8, kI r26.2.1)], [(1000000, kP 0 0)], [⟨.blk, 68, 1, 3, .c [.wh 1, .s (.k .i64 (l0_1 + (r26.1 + r26.2.1))), .wh 2]⟩, nb 5 l0_0, nz 3 l0_2]⟩ (aP g7 (aP g8 aN)) ?_
     obtain ⟨g9, g10, g11, g12, g13, h⟩ := gd5 h
     refine Vgs hT (fT 6 cloneb_h fN) [] [] [0, 1, 2, 3] ⟨[(4, kH 3), (5, .c (.s (.v .nilIface)))], [(1000000, kP 0 0)], [⟨.blk, 68, 1, 3, .c [.wh 1, .s (.k .i64 (l0_1 + (r26.1 + r26.2.1))), .wh 2]⟩, nb 5 l0_0, nz 3 l0_2, nb 5 ((l0_0.drop (oddA r11.1 r26.1.toNat)).take (((r26.1 + r26.2.1).toNat) - r26.1.toNat))]⟩ (aP g9 (aP g10 (aP g11 (aP g12 (aP g13 aN))))) ?_
     refine Vc [.er 5 29 .i64] [0, 1, 2, 3] (tTake_R l0_0 l0_2 ((l0_1 + (r26.1 + r26.2.1)), ((l0_0.drop (oddA r11.1 r26.1.toNat)).take (((r26.1 + r26.2.1).toNat) - r26.1.toNat)), none)) (W_ret ?_)
     exact ⟨.inl rfl, by cases h; rfl⟩
def tEnter_R (a0_0 : List UInt8) (r : Int × List Int × Option Int) : S := ⟨[(4, kE 29 r.2.2)], [(1000000, kP 0 0)], [⟨.blk, 68, 1, 3, .c [.wh 1, .s (.k .i64 r.1), .wh 2]⟩, nb 5 a0_0, nz 3 r.2.1]⟩
def tEnter_ct (n : Nat) (r : Int × List Int × Option Int) : CtM := ctM (cmm (mP 68 (mC (mB 5) (mC mI (mC (mZ 3) mN)))) fun y0 => cmc rU8.rd fun l1 => cmR (tEnter n y0.1 y0.2.1 y0.2.2.1 l1 = some r) (kE 29 r.2.2) [⟨.blk, 68, 1, 3, .c [.wh 0, .s (.k .i64 r.1), .wh 1]⟩] [nb 5 y0.1, nz 3 r.2.1])
theorem tEnter_ok (n : Nat) (r : Int × List Int × Option Int) : FnMOk Try.prog 39 (tEnter_ct n r) := by
 refine fnokM Try.func39 ?_
 refine HM_m (mP 68 (mC (mB 5) (mC mI (mC (mZ 3) mN)))) (fun (p0 : ((List UInt8) × (Int) × (List Int) × Unit)) => ?_) (allOwn_ok rfl)
 obtain ⟨l0_0, l0_1, l0_2, _⟩ := p0
 refine HM_c rU8 fun l1 _ => HM_0 tabO_nra (tEnter_R l0_0 r) [.tmp 4] [0, 1, 2] 69 1 Try.func39 fun w bs h => ?_
 have h : tEnter n l0_0 l0_1 l0_2 l1 = some r := h
 unfold tEnter at h
 have hT := tabO_nra
 refine Vrs hT [0, 1, 2] ⟨[(0, kP 0 0), (1, kU l1)], [(1000000, kP 0 0)], [⟨.blk, 68, 1, 3, .c [.wh 1, .s (.k .i64 l0_1), .wh 2]⟩, nb 5 l0_0, nz 3 l0_2]⟩ ?_
 obtain ⟨r10, g1, h⟩ := bind_some' h
 refine Vgs hT (fM 1 (tleft_ok n r10) fN) [] [] [0, 3, 4] ⟨[(0, kP 0 0), (1, kU l1), (5, .c (.sl 1 r10.1 r10.2))], [(1000000, kP 0 0)], [⟨.blk, 68, 1, 3, .c [.wh 1, .s (.k .i64 l0_1), .wh 2]⟩, nb 5 l0_0, nz 3 l0_2]⟩ (aP g1 aN) ?_
 refine W_seq ?_
 refine W_block ?_
 refine Vrs hT [0, 1, 2] ⟨[(0, kP 0 0), (1, kU l1), (5, .c (.sl 1 r10.1 r10.2)), (11, kB (((r10.2 : Nat) : Int) == 0))], [(1000000, kP 0 0)], [⟨.blk, 68, 1, 3, .c [.wh 1, .s (.k .i64 l0_1), .wh 2]⟩, nb 5 l0_0, nz 3 l0_2]⟩ ?_
 refine Vi ((((r10.2 : Nat) : Int) == 0)) (fun g13 => ?_) (fun g13 => ?_)
 ·replace h := bif_t h g13
  refine Vrs hT [0, 1, 2] ⟨[(4, kE 29 (some 13))], [(1000000, kP 0 0)], [⟨.blk, 68, 1, 3, .c [.wh 1, .s (.k .i64 l0_1), .wh 2]⟩, nb 5 l0_0, nz 3 l0_2]⟩ ?_
  refine Vc [] [0, 1, 2] (tEnter_R l0_0 (l0_1, l0_2, (some 13))) (W_ret ?_)
  exact ⟨.inl rfl, by cases h; rfl⟩
 ·replace h := bif_f h g13
  obtain ⟨g2, g3, h⟩ := gd2 h
  refine Vgs hT fN [] [] [0, 1, 2] ⟨[(0, kP 0 0), (1, kU l1), (5, .c (.sl 1 r10.1 r10.2)), (16, kB ((l0_0.getD (oddA r10.1 0) 0) != l1))], [(1000000, kP 0 0)], [⟨.blk, 68, 1, 3, .c [.wh 1, .s (.k .i64 l0_1), .wh 2]⟩, nb 5 l0_0, nz 3 l0_2]⟩ (aP g2 (aP g3 aN)) ?_
  refine Vi (((l0_0.getD (oddA r10.1 0) 0) != l1)) (fun g12 => ?_) (fun g12 => ?_)
  ·replace h := bif_t h g12
   refine Vrs hT [0, 1, 2] ⟨[(4, kE 29 (some 6))], [(1000000, kP 0 0)], [⟨.blk, 68, 1, 3, .c [.wh 1, .s (.k .i64 l0_1), .wh 2]⟩, nb 5 l0_0, nz 3 l0_2]⟩ ?_
   refine Vc [] [0, 1, 2] (tEnter_R l0_0 (l0_1, l0_2, (some 6))) (W_ret ?_)
   exact ⟨.inl rfl, by cases h; rfl⟩
  ·replace h := bif_f h g12
   refine W_skip ?_
   obtain ⟨r25, g4, h⟩ := bind_some' h
   refine Vgs hT (fT 1 (thead_ok n r25) fN) [] [] [0, 1, 2] ⟨[(0, kP 0 0), (1, kU l1), (6, kI r25.1), (7, kI r25.2.1), (8, kB r25.2.2)], [(1000000, kP 0 0)], [⟨.blk, 68, 1, 3, .c [.wh 1, .s (.k .i64 l0_1), .wh 2]⟩, nb 5 l0_0, nz 3 l0_2]⟩ (aP g4 aN) ?_
   refine W_seq ?_
   refine W_block ?_
   refine W_seq ?_
   rcases Bool.eq_false_or_eq_true (!r25.2.2) with g5 | g5
   ·replace h := bif_t h g5
    refine Vg hT fN [(2, true)] [] [0, 1, 2] ⟨[(0, kP 0 0), (6, kI r25.1), (7, kI r25.2.1), (29, kB true)], [(1000000, kP 0 0)], [⟨.blk, 68, 1, 3, .c [.wh 1, .s (.k .i64 l0_1), .wh 2]⟩, nb 5 l0_0, nz 3 l0_2]⟩ (aP g5 aN) ?_
    refine Vi (true) (fun _ => ?_) (fun hb => by cases hb)
    refine Vrs hT [0, 1, 2] ⟨[(4, kE 29 (some 2))], [(1000000, kP 0 0)], [⟨.blk, 68, 1, 3, .c [.wh 1, .s (.k .i64 l0_1), .wh 2]⟩, nb 5 l0_0, nz 3 l0_2]⟩ ?_
    refine Vc [] [0, 1, 2] (tEnter_R l0_0 (l0_1, l0_2, (some 2))) (W_ret ?_)
    exact ⟨.inl rfl, by cases h; rfl⟩
   ·replace h := bif_f h g5
    obtain ⟨r34, g6, h⟩ := bind_some' h
    refine Vg hT (fT 4 (tisW_ok n r34) fN) [(2, false)] [] [0, 1, 2] ⟨[(0, kP 0 0), (6, kI r25.1), (7, kI r25.2.1), (29, kB (!r34))], [(1000000, kP 0 0)], [⟨.blk, 68, 1, 3, .c [.wh 1, .s (.k .i64 l0_1), .wh 2]⟩, nb 5 l0_0, nz 3 l0_2]⟩ (aP g5 (aP g6 aN)) ?_
    refine Vi ((!r34)) (fun g11 => ?_) (fun g11 => ?_)
    ·replace h := bif_t h g11
     refine Vrs hT [0, 1, 2] ⟨[(4, kE 29 (some 2))], [(1000000, kP 0 0)], [⟨.blk, 68, 1, 3, .c [.wh 1, .s (.k .i64 l0_1), .wh 2]⟩, nb 5 l0_0, nz 3 l0_2]⟩ ?_
     refine Vc [] [0, 1, 2] (tEnter_R l0_0 (l0_1, l0_2, (some 2))) (W_ret ?_)
     exact ⟨.inl rfl, by cases h; rfl⟩
    ·replace h := bif_f h g11
     refine Vrs hT [0, 1, 2] ⟨[(0, kP 0 0), (6, kI r25.1), (7, kI r25.2.1), (38, kB (decide ((24 : Int) < ((l0_2.length : Nat) : Int))))], [(1000000, kP 0 0)], [⟨.blk, 68, 1, 3, .c [.wh 1, .s (.k .i64 l0_1), .wh 2]⟩, nb 5 l0_0, nz 3 l0_2]⟩ ?_
     refine Vi ((decide ((24 : Int) < ((l0_2.length : Nat) : Int)))) (fun g10 => ?_) (fun g10 => ?_)
     ·replace h := bif_t h g10
      refine Vrs hT [0, 1, 2] ⟨[(4, kE 29 (some 5))], [(1000000, kP 0 0)], [⟨.blk, 68, 1, 3, .c [.wh 1, .s (.k .i64 l0_1), .wh 2]⟩, nb 5 l0_0, nz 3 l0_2]⟩ ?_
      refine Vc [] [0, 1, 2] (tEnter_R l0_0 (l0_1, l0_2, (some 5))) (W_ret ?_)
      exact ⟨.inl rfl, by cases h; rfl⟩
     ·replace h := bif_f h g10
      refine W_skip ?_
      obtain ⟨g7, h⟩ := gd_some h
      refine Vgs hT fN [] [] [0, 1, 2] ⟨[(0, kP 0 0), (7, kI r25.2.1)], [(1000000, kP 0 0)], [⟨.blk, 68, 1, 3, .c [.wh 1, .s (.k .i64 (l0_1 + r25.1)), .wh 2]⟩, nb 5 l0_0, nz 3 l0_2]⟩ (aP g7 aN) ?_
      refine W_seq ?_
      obtain ⟨g8, g9, h⟩ := gd2 h
      refine W_regG hT fN (by kernel_rfl) [] [0, 1, 2, 3, 4, 5, 6, 7, 8, 9, 10, 13, 14] [[0, 1, 2, 3, 4, 5, 6, 7, 8, 9, 10], [0, 1, 2, 3, 4, 5, 6, 7, 8, 9, 10, 11], [0, 1, 2, 3, 4, 5, 6, 7, 8, 9, 10, 11, 12, 13, 14], [0, 1, 2, 3, 4, 5, 6, 7, 8, 9, 10, 11, 12, 13, 14, 15]] [⟨[(0, kP 0 0), (7, kI r25.2.1), (54, kP 0 0), (55, kP 0 0), (56, kP 0 0), (57, kP 0 2), (58, kH 2), (59, kP 0 0), (60, kP 0 0), (61, kP 0 1), (62, kI (l0_1 + r25.1)), (63, kI r25.2.1), (64, kI ((l0_1 + r25.1) + r25.2.1))], [(1000000, kP 0 0)], [⟨.blk, 68, 1, 3, .c [.wh 1, .s (.k .i64 (l0_1 + r25.1)), .wh 2]⟩, nb 5 l0_0, nz 3 l0_2]⟩, ⟨[(0, kP 0 0), (54, kP 0 0), (55, kP 0 0), (56, kP 0 0), (57, kP 0 2), (58, kH 2), (65, kH 3)], [(1000000, kP 0 0)], [⟨.blk, 68, 1, 3, .c [.wh 1, .s (.k .i64 (l0_1 + r25.1)), .wh 2]⟩, nb 5 l0_0, nz 3 l0_2, ⟨.row, 3, 1, 1, .z [((l0_1 + r25.1) + r25.2.1)]⟩]⟩, ⟨[(0, kP 0 0), (54, kP 0 0), (66, kH 3), (67, kP 0 0), (68, kP 0 2)], [(1000000, kP 0 0)], [⟨.blk, 68, 1, 3, .c [.wh 1, .s (.k .i64 (l0_1 + r25.1)), .wh 2]⟩, nb 5 l0_0, ⟨.dead, 3, 1, l0_2.length, .z l0_2⟩, nz 3 (l0_2 ++ [((l0_1 + r25.1) + r25.2.1)])]⟩, ⟨[], [(1000000, kP 0 0)], [⟨.blk, 68, 1, 3, .c [.wh 1, .s (.k .i64 (l0_1 + r25.1)), .wh 2]⟩, nb 5 l0_0, nz 3 (l0_2 ++ [((l0_1 + r25.1) + r25.2.1)])]⟩] [0, 1, 2, 3, 4, 5, 6, 7, 8, 9, 10] [⟨0, 11, 1, [], [], [0, 54, 55, 56, 57, 58, 65], [0, 1, 2, 3]⟩, ⟨1, 12, 2, [13, 14], [], [0, 54, 66, 67, 68], [0, 1, 2, 4]⟩, ⟨2, 15, 3, [], [], [], [0, 1, 3]⟩] [(0, 0), (0, 1), (0, 2), (0, 3), (0, 4), (0, 5), (0, 6), (0, 7), (0, 8), (0, 9), (0, 10), (1, 0), (1, 1), (1, 2), (1, 3), (1, 4), (2, 0), (2, 13), (2, 14)] 3 [0, 7, 54, 55, 56, 57, 58, 59, 60, 61, 62, 63, 64] [0, 1, 2] [] [] [0, 1, 2] (s' := ⟨[], [(1000000, kP 0 0)], [⟨.blk, 68, 1, 3, .c [.wh 1, .s (.k .i64 (l0_1 + r25.1)), .wh 2]⟩, nb 5 l0_0, nz 3 (l0_2 ++ [((l0_1 + r25.1) + r25.2.1)])]⟩) (by kernel_rfl) ⟨_, (by kernel_rfl), (allP_cons.2 ⟨g8, allP_nil⟩)⟩ (AllE.cons ⟨_, (by kernel_rfl), allP_nil⟩ (AllE.cons ⟨_, (by kernel_rfl), (allP_cons.2 ⟨g9, allP_nil⟩)⟩ (AllE.cons ⟨_, (by kernel_rfl), allP_nil⟩ AllE.nil))) (AllR.cons ⟨_, (by kernel_rfl), allP_nil⟩ (AllR.cons ⟨_, (by kernel_rfl), allP_nil⟩ (AllR.cons ⟨_, (by kernel_rfl), allP_nil⟩ (AllR.cons ⟨_, (by kernel_rfl), allP_nil⟩ (AllR.cons ⟨_, (by kernel_rfl), allP_nil⟩ (AllR.cons ⟨_, (by kernel_rfl), allP_nil⟩ (AllR.cons ⟨_, (by kernel_rfl), allP_nil⟩ (AllR.cons ⟨_, (by kernel_rfl), allP_nil⟩ (AllR.cons ⟨_, (by kernel_rfl), allP_nil⟩ (AllR.cons ⟨_, (by kernel_rfl), allP_nil⟩ (AllR.cons ⟨_, (by kernel_rfl), (allP_cons.2 ⟨g8, allP_nil⟩)⟩ (AllR.cons ⟨_, (by kernel_rfl), allP_nil⟩ (AllR.cons ⟨_, (by kernel_rfl), allP_nil⟩ (AllR.cons ⟨_, (by kernel_rfl), allP_nil⟩ (AllR.cons ⟨_, (by kernel_rfl), allP_nil⟩ (AllR.cons ⟨_, (by kernel_rfl), allP_nil⟩ (AllR.cons ⟨_, (by kernel_rfl), allP_nil⟩ (AllR.cons ⟨_, (by kernel_rfl), allP_nil⟩ (AllR.cons ⟨_, (by kernel_rfl), allP_nil⟩ AllR.nil))))))))))))))))))) (by kernel_rfl) ?_
      refine Vrs hT [0, 1, 2] ⟨[(4, .c (.s (.v .nilIface)))], [(1000000, kP 0 0)], [⟨.blk, 68, 1, 3, .c [.wh 1, .s (.k .i64 (l0_1 + r25.1)), .wh 2]⟩, nb 5 l0_0, nz 3 (l0_2 ++ [((l0_1 + r25.1) + r25.2.1)])]⟩ ?_
      refine Vc [.er 4 29 .i64] [0, 1, 2] (tEnter_R l0_0 ((l0_1 + r25.1), (l0_2 ++ [((l0_1 + r25.1) + r25.2.1)]), none)) (W_ret ?_)
      exact ⟨.inl rfl, by cases h; rfl⟩
def tLeave_R (a0_0 : List UInt8) (a0_1 : Int) (r : List Int × Option Int) : S := ⟨[(2, kE 29 r.2)], [(1000000, kP 0 0)], [⟨.blk, 68, 1, 3, .c [.wh 1, .s (.k .i64 a0_1), .wh 2]⟩, nb 5 a0_0, nz 3 r.1]⟩
def tLeave_ct (n : Nat) (r : List Int × Option Int) : CtM := ctM (cmm (mP 68 (mC (mB 5) (mC mI (mC (mZ 3) mN)))) fun y0 => cmR (tLeave n y0.1 y0.2.1 y0.2.2.1 = some r) (kE 29 r.2) [⟨.blk, 68, 1, 3, .c [.wh 0, .s (.k .i64 y0.2.1), .wh 1]⟩] [nb 5 y0.1, nz 3 r.1])
theorem tLeave_ok (n : Nat) (r : List Int × Option Int) : FnMOk Try.prog 40 (tLeave_ct n r) := by
 refine fnokM Try.func40 ?_
 refine HM_m (mP 68 (mC (mB 5) (mC mI (mC (mZ 3) mN)))) (fun (p0 : ((List UInt8) × (Int) × (List Int) × Unit)) => ?_) (allOwn_ok rfl)
 obtain ⟨l0_0, l0_1, l0_2, _⟩ := p0
 refine HM_0 tabO_nra (tLeave_R l0_0 l0_1 r) [.tmp 2] [0, 1, 2] 31 1 Try.func40 fun w bs h => ?_
 have h : tLeave n l0_0 l0_1 l0_2 = some r := h
 unfold tLeave at h
 have hT := tabO_nra
 refine Vrs hT [0, 1, 2] ⟨[(0, kP 0 0)], [(1000000, kP 0 0)], [⟨.blk, 68, 1, 3, .c [.wh 1, .s (.k .i64 l0_1), .wh 2]⟩, nb 5 l0_0, nz 3 l0_2]⟩ ?_
 refine W_seq ?_
 refine W_block ?_
 refine Vrs hT [0, 1, 2] ⟨[(0, kP 0 0), (3, kB (((l0_2.length : Nat) : Int) == 1))], [(1000000, kP 0 0)], [⟨.blk, 68, 1, 3, .c [.wh 1, .s (.k .i64 l0_1), .wh 2]⟩, nb 5 l0_0, nz 3 l0_2]⟩ ?_
 refine Vi ((((l0_2.length : Nat) : Int) == 1)) (fun g6 => ?_) (fun g6 => ?_)
 ·replace h := bif_t h g6
  refine Vrs hT [0, 1, 2] ⟨[(2, kE 29 (some 17))], [(1000000, kP 0 0)], [⟨.blk, 68, 1, 3, .c [.wh 1, .s (.k .i64 l0_1), .wh 2]⟩, nb 5 l0_0, nz 3 l0_2]⟩ ?_
  refine Vc [] [0, 1, 2] (tLeave_R l0_0 l0_1 (l0_2, (some 17))) (W_ret ?_)
  exact ⟨.inl rfl, by cases h; rfl⟩
 ·replace h := bif_f h g6
  obtain ⟨r13, g1, h⟩ := bind_some' h
  refine Vgs hT (fM 1 (tleft_ok n r13) fN) [] [] [0, 3, 4] ⟨[(0, kP 0 0), (11, kB (decide ((0 : Int) < ((r13.2 : Nat) : Int))))], [(1000000, kP 0 0)], [⟨.blk, 68, 1, 3, .c [.wh 1, .s (.k .i64 l0_1), .wh 2]⟩, nb 5 l0_0, nz 3 l0_2]⟩ (aP g1 aN) ?_
  refine Vi ((decide ((0 : Int) < ((r13.2 : Nat) : Int)))) (fun g5 => ?_) (fun g5 => ?_)
  ·replace h := bif_t h g5
   refine Vrs hT [0, 1, 2] ⟨[(2, kE 29 (some 3))], [(1000000, kP 0 0)], [⟨.blk, 68, 1, 3, .c [.wh 1, .s (.k .i64 l0_1), .wh 2]⟩, nb 5 l0_0, nz 3 l0_2]⟩ ?_
   refine Vc [] [0, 1, 2] (tLeave_R l0_0 l0_1 (l0_2, (some 3))) (W_ret ?_)
   exact ⟨.inl rfl, by cases h; rfl⟩
  ·replace h := bif_f h g5
   refine W_skip ?_
   obtain ⟨g2, g3, g4, h⟩ := gd3 h
   refine Vds hT fN 13 [] [(28, false), (29, false)] [.cut 0 2] [0, 1, 3] ⟨[], [(1000000, kP 0 0)], [⟨.blk, 68, 1, 3, .c [.wh 1, .s (.k .i64 l0_1), .wh 2]⟩, nb 5 l0_0, nz 3 (l0_2.take ((((l0_2.length : Nat) : Int) - 1).toNat))]⟩ (aP g2 (aP g3 (aP g4 aN))) ?_
   refine Vrs hT [0, 1, 2] ⟨[(2, .c (.s (.v .nilIface)))], [(1000000, kP 0 0)], [⟨.blk, 68, 1, 3, .c [.wh 1, .s (.k .i64 l0_1), .wh 2]⟩, nb 5 l0_0, nz 3 (l0_2.take ((((l0_2.length : Nat) : Int) - 1).toNat))]⟩ ?_
   refine Vc [.er 2 29 .i64] [0, 1, 2] (tLeave_R l0_0 l0_1 ((l0_2.take ((((l0_2.length : Nat) : Int) - 1).toNat)), none)) (W_ret ?_)
   exact ⟨.inl rfl, by cases h; rfl⟩
def tEnd_R (a0_0 : List UInt8) (a0_1 : Int) (a0_2 : List Int) (r : Option Int) : S := ⟨[(2, kE 29 r)], [(1000000, kP 0 0)], [⟨.blk, 68, 1, 3, .c [.wh 1, .s (.k .i64 a0_1), .wh 2]⟩, nb 5 a0_0, nz 3 a0_2]⟩
def tEnd_ct (n : Nat) (r : Option Int) : CtM := ctM (cmm (mP 68 (mC (mB 5) (mC mI (mC (mZ 3) mN)))) fun y0 => cmR (tEnd n y0.1 y0.2.1 y0.2.2.1 = some r) (kE 29 r) [⟨.blk, 68, 1, 3, .c [.wh 0, .s (.k .i64 y0.2.1), .wh 1]⟩] [nb 5 y0.1, nz 3 y0.2.2.1])
theorem tEnd_ok (n : Nat) (r : Option Int) : FnMOk Try.prog 27 (tEnd_ct n r) := by
 refine fnokM Try.func27 ?_
 refine HM_m (mP 68 (mC (mB 5) (mC mI (mC (mZ 3) mN)))) (fun (p0 : ((List UInt8) × (Int) × (List Int) × Unit)) => ?_) (allOwn_ok rfl)
 obtain ⟨l0_0, l0_1, l0_2, _⟩ := p0
 refine HM_0 tabO_nra (tEnd_R l0_0 l0_1 l0_2 r) [.tmp 2] [0, 1, 2] 17 1 Try.func27 fun w bs h => ?_
 have h : tEnd n l0_0 l0_1 l0_2 = some r := h
 unfold tEnd at h
 have hT := tabO_nra
 refine Vrs hT [0, 1, 2] ⟨[(0, kP 0 0)], [(1000000, kP 0 0)], [⟨.blk, 68, 1, 3, .c [.wh 1, .s (.k .i64 l0_1), .wh 2]⟩, nb 5 l0_0, nz 3 l0_2]⟩ ?_
 refine W_seq ?_
 refine W_block ?_
 refine Vrs hT [0, 1, 2] ⟨[(0, kP 0 0), (3, kB (decide ((1 : Int) < ((l0_2.length : Nat) : Int))))], [(1000000, kP 0 0)], [⟨.blk, 68, 1, 3, .c [.wh 1, .s (.k .i64 l0_1), .wh 2]⟩, nb 5 l0_0, nz 3 l0_2]⟩ ?_
 refine Vi ((decide ((1 : Int) < ((l0_2.length : Nat) : Int)))) (fun g3 => ?_) (fun g3 => ?_)
 ·replace h := bif_t h g3
  refine Vrs hT [0, 1, 2] ⟨[(2, kE 29 (some 17))], [(1000000, kP 0 0)], [⟨.blk, 68, 1, 3, .c [.wh 1, .s (.k .i64 l0_1), .wh 2]⟩, nb 5 l0_0, nz 3 l0_2]⟩ ?_
  refine Vc [] [0, 1, 2] (tEnd_R l0_0 l0_1 l0_2 (some 17)) (W_ret ?_)
  exact ⟨.inl rfl, by cases h; rfl⟩
 ·replace h := bif_f h g3
  obtain ⟨r13, g1, h⟩ := bind_some' h
  refine Vgs hT (fM 1 (tleft_ok n r13) fN) [] [] [0, 3, 4] ⟨[(11, kB (decide ((0 : Int) < ((r13.2 : Nat) : Int))))], [(1000000, kP 0 0)], [⟨.blk, 68, 1, 3, .c [.wh 1, .s (.k .i64 l0_1), .wh 2]⟩, nb 5 l0_0, nz 3 l0_2]⟩ (aP g1 aN) ?_
  refine Vi ((decide ((0 : Int) < ((r13.2 : Nat) : Int)))) (fun g2 => ?_) (fun g2 => ?_)
  ·replace h := bif_t h g2
   refine Vrs hT [0, 1, 2] ⟨[(2, kE 29 (some 3))], [(1000000, kP 0 0)], [⟨.blk, 68, 1, 3, .c [.wh 1, .s (.k .i64 l0_1), .wh 2]⟩, nb 5 l0_0, nz 3 l0_2]⟩ ?_
   refine Vc [] [0, 1, 2] (tEnd_R l0_0 l0_1 l0_2 (some 3)) (W_ret ?_)
   exact ⟨.inl rfl, by cases h; rfl⟩
  ·replace h := bif_f h g2
   refine W_skip ?_
   refine Vrs hT [0, 1, 2] ⟨[(2, .c (.s (.v .nilIface)))], [(1000000, kP 0 0)], [⟨.blk, 68, 1, 3, .c [.wh 1, .s (.k .i64 l0_1), .wh 2]⟩, nb 5 l0_0, nz 3 l0_2]⟩ ?_
   refine Vc [.er 2 29 .i64] [0, 1, 2] (tEnd_R l0_0 l0_1 l0_2 none) (W_ret ?_)
   exact ⟨.inl rfl, by cases h; rfl⟩
end Go.Proofs.Ytcdljciflkefaaa
end
section
namespace Go.Proofs.Ytcdljciflkefaaa
open Go.RowKit Go.Ch Go.Sx
def tabL_nwa : List (TypeId × Ti) := [(5, ⟨.int .u8, 1, 1, true, some [.int .u8]⟩),
 (23, ⟨.sl 5, 1, 24, false, some [.nils]⟩),
 (25, ⟨.ifc, 1, 16, true, some [.ifc]⟩),
 (33, ⟨.ptr 58, 1, 8, true, some [.ptr]⟩),
 (56, ⟨.sl 64, 1, 24, false, some [.nils]⟩),
 (58, ⟨.st [(56, 0), (25, 1)], 2, 40, false, some [.nils, .ifc]⟩),
 (64, ⟨.st [(5, 0), (23, 1)], 2, 32, false, some [.int .u8, .nils]⟩)]
def tab_nwa : Tab := fun t => (tabL_nwa).lookup t
theorem tabE_nwa : (tabL_nwa.map fun p => tiOf Try.prog p.1) = tabL_nwa.map fun p => some p.2 := by kernel_rfl
theorem tabO_nwa : TabOk Try.prog tab_nwa := tab_of tabE_nwa
def wNew (n : Nat) : Option (Unit) :=
 some ()
def wOpen1 (n : Nat) (a0_0 : UInt8) (a0_1 : List UInt8) (a1 : UInt8) : Option (Unit) :=
 (tvalid n a1).bind fun r23 =>
 bif (!r23) then
  none
 else
  (tisW n a1).bind fun r27 =>
  bif (!r27) then
   none
  else
   gd (rmB 2 32) <|
   some ()
def wadd1 (n : Nat) (a0_0 : UInt8) (a0_1 : List UInt8) (a1 : UInt8) (a2 : List UInt8) : Option (List UInt8) :=
 (tHead n a1 ((a2.length : Nat) : Int)).bind fun r13 =>
 bif (!((r13.2).isNone)) then
  none
 else
  gd (okI .i64 0) <|
  gd (0 ≤ (0 : Int)) <|
  gd ((0 : Int) < (1 : Int)) <|
  gd (1 < 1 * 2) <|
  gd (rmB (a0_1.length + r13.1.length) 1) <|
  gd (rmB (((a0_1 ++ r13.1).length) + a2.length) 1) <|
  gd (1 < 1 * 2) <|
  some ((a0_1 ++ r13.1) ++ a2)
def wadd2 (n : Nat) (a0_0 : UInt8) (a0_1 : List UInt8) (a0_2 : UInt8) (a0_3 : List UInt8) (a1 : UInt8) (a2 : List UInt8) : Option (List UInt8) :=
 (tHead n a1 ((a2.length : Nat) : Int)).bind fun r13 =>
 bif (!((r13.2).isNone)) then
  none
 else
  gd (okI .i64 1) <|
  gd (0 ≤ (1 : Int)) <|
  gd ((1 : Int) < (2 : Int)) <|
  gd (3 < 2 * 2) <|
  gd (rmB (a0_3.length + r13.1.length) 1) <|
  gd (rmB (((a0_3 ++ r13.1).length) + a2.length) 1) <|
  gd (3 < 2 * 2) <|
  some ((a0_3 ++ r13.1) ++ a2)
def wPut2 (n : Nat) (a0_0 : UInt8) (a0_1 : List UInt8) (a0_2 : UInt8) (a0_3 : List UInt8) (a1 : UInt8) (a2 : List UInt8) : Option (List UInt8) :=
 (tvalid n a1).bind fun r18 =>
 bif (!r18) then
  none
 else
  (tisW n a1).bind fun r22 =>
  bif r22 then
   none
  else
   (wadd2 n a0_0 a0_1 a0_2 a0_3 a1 a2).bind fun r9 =>
   some r9
def wClose2 (n : Nat) (a0_0 : UInt8) (a0_1 : List UInt8) (a0_2 : UInt8) (a0_3 : List UInt8) : Option (List UInt8) :=
 gd (okI .i64 1) <|
 gd (0 ≤ (1 : Int)) <|
 gd ((1 : Int) < (2 : Int)) <|
 gd (2 + 2 ≤ 4) <|
 gd (okI .i64 1) <|
 gd (0 ≤ (1 : Int)) <|
 gd ((1 : Int) ≤ (2 : Int)) <|
 (wadd1 n a0_0 a0_1 a0_2 a0_3).bind fun r34 =>
 some r34
def wBytes1 (n : Nat) (a0_0 : UInt8) (a0_1 : List UInt8) : Option (Unit) :=
 gd (0 ≤ (0 : Int)) <|
 gd ((0 : Int) < (1 : Int)) <|
 gd (1 < 1 * 2) <|
 gd ((a0_1).length ≤ 1000000000000) <|
 some ()
def wNew_R (r : Unit) : S := ⟨[(0, kP 0 0)], [], [⟨.blk, 58, 1, 2, .c [.wh 1, .s (.v .nilIface)]⟩, ⟨.row, 64, 2, 1, .c [.s (.u8 0), .wh 2]⟩, ⟨.row, 5, 1, 0, .b []⟩]⟩
def wNew_ct (n : Nat) (r : Unit) : Ct := ct0 fun H => ([wNew n = some r], shA H.length (kP 0 0), shH H.length [⟨.blk, 58, 1, 2, .c [.wh 1, .s (.v .nilIface)]⟩, ⟨.row, 64, 2, 1, .c [.s (.u8 0), .wh 2]⟩, ⟨.row, 5, 1, 0, .b []⟩])
theorem wNew_ok (n : Nat) (r : Unit) : FnOk Try.prog Tr 11 (wNew_ct n r) := by
 refine fnok Try.func11 ?_
 refine HO_0 tabO_nwa (wNew_R r) [.tmp 0] [0, 1, 2] 4 Try.func11 fun w hG h => ?_
 unfold wNew at h
 have hT := tabO_nwa
 refine Vrs hT [] ⟨[], [], []⟩ ?_
 refine Vrs hT [1, 0] ⟨[(0, kP 0 0)], [], [⟨.blk, 58, 1, 2, .c [.wh 1, .s (.v .nilIface)]⟩, ⟨.row, 64, 2, 1, .c [.s (.u8 0), .nils]⟩]⟩ ?_
 refine Vc [.nlc 1 1 5 1 (.b []) none] [0, 1, 2] (wNew_R ()) (W_ret ?_)
 exact ⟨.inl rfl, by cases h; rfl⟩
def wOpen1_R (a0_0 : UInt8) (a0_1 : List UInt8) (a1 : UInt8) (r : Unit) : S := ⟨[], [(1000000, kP 0 0)], [⟨.blk, 58, 1, 2, .c [.wh 1, .s (.er 29 .i64 none)]⟩, ⟨.row, 64, 2, 2, .c [.s (.u8 a0_0), .wh 2, .s (.u8 a1), .wh 3]⟩, nb 5 a0_1, ⟨.row, 5, 1, 0, .b []⟩]⟩
def wOpen1_ct (n : Nat) (r : Unit) : CtM := ctM (cmm (mP 58 (mC (mR 64 2 1 (mC mU8 (mC (mB 5) mN))) (mC (mE0 29) mN))) fun y0 => cmc rU8.rd fun l1 => cmR (wOpen1 n y0.1.1 y0.1.2.1 l1 = some r) (.t []) [⟨.blk, 58, 1, 2, .c [.wh 0, .s (.er 29 .i64 none)]⟩] [⟨.row, 64, 2, 2, .c [.s (.u8 y0.1.1), .wh 1, .s (.u8 l1), .wh 2]⟩, nb 5 y0.1.2.1, ⟨.row, 5, 1, 0, .b []⟩])
theorem wOpen1_ok (n : Nat) (r : Unit) : FnMOk Try.prog 16 (wOpen1_ct n r) := by
 refine fnokM Try.func16 ?_
 refine HM_m (mP 58 (mC (mR 64 2 1 (mC mU8 (mC (mB 5) mN))) (mC (mE0 29) mN))) (fun (p0 : ((((UInt8) × (List UInt8) × Unit)) × (Unit) × Unit)) => ?_) (allOwn_ok rfl)
 obtain ⟨⟨l0_0, l0_1, _⟩, _, _⟩ := p0
 refine HM_c rU8 fun l1 _ => HM_0 tabO_nwa (wOpen1_R l0_0 l0_1 l1 r) [] [0, 1, 2, 3] 43 1 Try.func16 fun w bs h => ?_
 have h : wOpen1 n l0_0 l0_1 l1 = some r := h
 unfold wOpen1 at h
 have hT := tabO_nwa
 refine W_block ?_
 refine Vrs hT [0, 1, 2] ⟨[(0, kP 0 0), (1, kU l1), (15, kB false)], [(1000000, kP 0 0)], [⟨.blk, 58, 1, 2, .c [.wh 1, .s (.er 29 .i64 none)]⟩, ⟨.row, 64, 2, 1, .c [.s (.u8 l0_0), .wh 2]⟩, nb 5 l0_1]⟩ ?_
 refine Vi (false) (fun hb => by cases hb) (fun _ => ?_)
 refine W_seq ?_
 obtain ⟨r23, g1, h⟩ := bind_some' h
 rcases Bool.eq_false_or_eq_true (!r23) with g2 | g2
 ·replace h := bif_t h g2
  refine Vg hT (fT 1 (tvalid_ok n r23) fN) [(3, true)] [] [0, 1, 2] ⟨[(0, kP 0 0), (1, kU l1), (21, kB true)], [(1000000, kP 0 0)], [⟨.blk, 58, 1, 2, .c [.wh 1, .s (.er 29 .i64 none)]⟩, ⟨.row, 64, 2, 1, .c [.s (.u8 l0_0), .wh 2]⟩, nb 5 l0_1]⟩ (aP g1 (aP g2 aN)) ?_
  refine Vi (true) (fun _ => ?_) (fun hb => by cases hb)
  cases h
 ·replace h := bif_f h g2
  obtain ⟨r27, g3, h⟩ := bind_some' h
  refine Vg hT (fT 1 (tvalid_ok n r23) (fT 5 (tisW_ok n r27) fN)) [(3, false)] [] [0, 1, 2] ⟨[(0, kP 0 0), (1, kU l1), (21, kB (!r27))], [(1000000, kP 0 0)], [⟨.blk, 58, 1, 2, .c [.wh 1, .s (.er 29 .i64 none)]⟩, ⟨.row, 64, 2, 1, .c [.s (.u8 l0_0), .wh 2]⟩, nb 5 l0_1]⟩ (aP g1 (aP g2 (aP g3 aN))) ?_
  refine Vi ((!r27)) (fun g5 => ?_) (fun g5 => ?_)
  ·replace h := bif_t h g5
   cases h
  ·replace h := bif_f h g5
   refine Vrs hT [0, 1, 2] ⟨[(0, kP 0 0), (1, kU l1), (33, kB false)], [(1000000, kP 0 0)], [⟨.blk, 58, 1, 2, .c [.wh 1, .s (.er 29 .i64 none)]⟩, ⟨.row, 64, 2, 1, .c [.s (.u8 l0_0), .wh 2]⟩, nb 5 l0_1]⟩ ?_
   refine Vi (false) (fun hb => by cases hb) (fun _ => ?_)
   obtain ⟨g4, h⟩ := gd_some h
   refine Vg hT fN [] [.nlc 4 3 5 1 (.b []) none] [0, 4, 2, 5] (wOpen1_R l0_0 l0_1 l1 ()) (aP g4 aN) ?_
   exact ⟨.inr rfl, by cases h; rfl⟩
def wadd1_R (a0_0 : UInt8) (r : List UInt8) : S := ⟨[], [(1000000, kP 0 0)], [⟨.blk, 58, 1, 2, .c [.wh 1, .s (.er 29 .i64 none)]⟩, ⟨.row, 64, 2, 1, .c [.s (.u8 a0_0), .wh 2]⟩, nb 5 r]⟩
def wadd1_ct (n : Nat) (r : List UInt8) : CtM := ctM (cmm (mP 58 (mC (mR 64 2 1 (mC mU8 (mC (mB 5) mN))) (mC (mE0 29) mN))) fun y0 => cmc rU8.rd fun l1 => cmb fun l2 => cmR (wadd1 n y0.1.1 y0.1.2.1 l1 l2 = some r) (.t []) [⟨.blk, 58, 1, 2, .c [.wh 0, .s (.er 29 .i64 none)]⟩] [⟨.row, 64, 2, 1, .c [.s (.u8 y0.1.1), .wh 1]⟩, nb 5 r])
theorem wadd1_ok (n : Nat) (r : List UInt8) : FnMOk Try.prog 32 (wadd1_ct n r) := by
 refine fnokM Try.func32 ?_
 refine HM_m (mP 58 (mC (mR 64 2 1 (mC mU8 (mC (mB 5) mN))) (mC (mE0 29) mN))) (fun (p0 : ((((UInt8) × (List UInt8) × Unit)) × (Unit) × Unit)) => ?_) (allOwn_ok rfl)
 obtain ⟨⟨l0_0, l0_1, _⟩, _, _⟩ := p0
 refine HM_c rU8 fun l1 _ => HM_b 5 fun l2 => HM_0 tabO_nwa (wadd1_R l0_0 r) [] [0, 1, 2] 43 1 Try.func32 fun w bs h => ?_
 have h : wadd1 n l0_0 l0_1 l1 l2 = some r := h
 unfold wadd1 at h
 have hT := tabO_nwa
 obtain ⟨r13, g1, h⟩ := bind_some' h
 refine Vgs hT (fT 3 (tHead_ok n r13) fN) [] [] [0, 1, 2, 3, 4] ⟨[(0, kP 0 0), (2, kH 3), (6, kH 4), (7, kE 29 r13.2)], [(1000000, kP 0 0)], [⟨.blk, 58, 1, 2, .c [.wh 1, .s (.er 29 .i64 none)]⟩, ⟨.row, 64, 2, 1, .c [.s (.u8 l0_0), .wh 2]⟩, nb 5 l0_1, ob 5 l2, nb 5 r13.1]⟩ (aP g1 aN) ?_
 refine W_seq ?_
 refine Vrs hT [0, 1, 2, 3, 4] ⟨[(0, kP 0 0), (2, kH 3), (6, kH 4), (7, kE 29 r13.2), (17, kB (!((r13.2).isNone)))], [(1000000, kP 0 0)], [⟨.blk, 58, 1, 2, .c [.wh 1, .s (.er 29 .i64 none)]⟩, ⟨.row, 64, 2, 1, .c [.s (.u8 l0_0), .wh 2]⟩, nb 5 l0_1, ob 5 l2, nb 5 r13.1]⟩ ?_
 refine Vi ((!((r13.2).isNone))) (fun g9 => ?_) (fun g9 => ?_)
 ·replace h := bif_t h g9
  refine W_seq ?_
  cases h
 ·replace h := bif_f h g9
  refine W_skip ?_
  obtain ⟨g2, g3, g4, h⟩ := gd3 h
  refine Vds hT fN 10 [] [(2, false), (6, false), (24, false), (30, false)] [] [0, 1, 2, 3, 4] ⟨[(2, kH 3), (6, kH 4), (8, kP 1 0)], [(1000000, kP 0 0)], [⟨.blk, 58, 1, 2, .c [.wh 1, .s (.er 29 .i64 none)]⟩, ⟨.row, 64, 2, 1, .c [.s (.u8 l0_0), .wh 2]⟩, nb 5 l0_1, ob 5 l2, nb 5 r13.1]⟩ (aP g2 (aP g3 (aP g4 aN))) ?_
  obtain ⟨g5, g6, g7, g8, h⟩ := gd4 h
  refine Vg hT fN [] [] [0, 1, 6] (wadd1_R l0_0 ((l0_1 ++ r13.1) ++ l2)) (aP g5 (aP g6 (aP g7 (aP g8 aN)))) ?_
  exact ⟨.inr rfl, by cases h; rfl⟩
def wadd2_R (a0_0 : UInt8) (a0_1 : List UInt8) (a0_2 : UInt8) (r : List UInt8) : S := ⟨[], [(1000000, kP 0 0)], [⟨.blk, 58, 1, 2, .c [.wh 1, .s (.er 29 .i64 none)]⟩, ⟨.row, 64, 2, 2, .c [.s (.u8 a0_0), .wh 2, .s (.u8 a0_2), .wh 3]⟩, nb 5 a0_1, nb 5 r]⟩
def wadd2_ct (n : Nat) (r : List UInt8) : CtM := ctM (cmm (mP 58 (mC (mR 64 2 2 (mC mU8 (mC (mB 5) (mC mU8 (mC (mB 5) mN))))) (mC (mE0 29) mN))) fun y0 => cmc rU8.rd fun l1 => cmb fun l2 => cmR (wadd2 n y0.1.1 y0.1.2.1 y0.1.2.2.1 y0.1.2.2.2.1 l1 l2 = some r) (.t []) [⟨.blk, 58, 1, 2, .c [.wh 0, .s (.er 29 .i64 none)]⟩] [⟨.row, 64, 2, 2, .c [.s (.u8 y0.1.1), .wh 1, .s (.u8 y0.1.2.2.1), .wh 2]⟩, nb 5 y0.1.2.1, nb 5 r])
theorem wadd2_ok (n : Nat) (r : List UInt8) : FnMOk Try.prog 32 (wadd2_ct n r) := by
 refine fnokM Try.func32 ?_
 refine HM_m (mP 58 (mC (mR 64 2 2 (mC mU8 (mC (mB 5) (mC mU8 (mC (mB 5) mN))))) (mC (mE0 29) mN))) (fun (p0 : ((((UInt8) × (List UInt8) × (UInt8) × (List UInt8) × Unit)) × (Unit) × Unit)) => ?_) (allOwn_ok rfl)
 obtain ⟨⟨l0_0, l0_1, l0_2, l0_3, _⟩, _, _⟩ := p0
 refine HM_c rU8 fun l1 _ => HM_b 5 fun l2 => HM_0 tabO_nwa (wadd2_R l0_0 l0_1 l0_2 r) [] [0, 1, 2, 3] 43 1 Try.func32 fun w bs h => ?_
 have h : wadd2 n l0_0 l0_1 l0_2 l0_3 l1 l2 = some r := h
 unfold wadd2 at h
 have hT := tabO_nwa
 obtain ⟨r13, g1, h⟩ := bind_some' h
 refine Vgs hT (fT 3 (tHead_ok n r13) fN) [] [] [0, 1, 2, 3, 4, 5] ⟨[(0, kP 0 0), (2, kH 4), (6, kH 5), (7, kE 29 r13.2)], [(1000000, kP 0 0)], [⟨.blk, 58, 1, 2, .c [.wh 1, .s (.er 29 .i64 none)]⟩, ⟨.row, 64, 2, 2, .c [.s (.u8 l0_0), .wh 2, .s (.u8 l0_2), .wh 3]⟩, nb 5 l0_1, nb 5 l0_3, ob 5 l2, nb 5 r13.1]⟩ (aP g1 aN) ?_
 refine W_seq ?_
 refine Vrs hT [0, 1, 2, 3, 4, 5] ⟨[(0, kP 0 0), (2, kH 4), (6, kH 5), (7, kE 29 r13.2), (17, kB (!((r13.2).isNone)))], [(1000000, kP 0 0)], [⟨.blk, 58, 1, 2, .c [.wh 1, .s (.er 29 .i64 none)]⟩, ⟨.row, 64, 2, 2, .c [.s (.u8 l0_0), .wh 2, .s (.u8 l0_2), .wh 3]⟩, nb 5 l0_1, nb 5 l0_3, ob 5 l2, nb 5 r13.1]⟩ ?_
 refine Vi ((!((r13.2).isNone))) (fun g9 => ?_) (fun g9 => ?_)
 ·replace h := bif_t h g9
  refine W_seq ?_
  cases h
 ·replace h := bif_f h g9
  refine W_skip ?_
  obtain ⟨g2, g3, g4, h⟩ := gd3 h
  refine Vds hT fN 10 [] [(2, false), (6, false), (24, false), (30, false)] [] [0, 1, 2, 3, 4, 5] ⟨[(2, kH 4), (6, kH 5), (8, kP 1 2)], [(1000000, kP 0 0)], [⟨.blk, 58, 1, 2, .c [.wh 1, .s (.er 29 .i64 none)]⟩, ⟨.row, 64, 2, 2, .c [.s (.u8 l0_0), .wh 2, .s (.u8 l0_2), .wh 3]⟩, nb 5 l0_1, nb 5 l0_3, ob 5 l2, nb 5 r13.1]⟩ (aP g2 (aP g3 (aP g4 aN))) ?_
  obtain ⟨g5, g6, g7, g8, h⟩ := gd4 h
  refine Vg hT fN [] [] [0, 1, 2, 7] (wadd2_R l0_0 l0_1 l0_2 ((l0_3 ++ r13.1) ++ l2)) (aP g5 (aP g6 (aP g7 (aP g8 aN)))) ?_
  exact ⟨.inr rfl, by cases h; rfl⟩
def wPut2_R (a0_0 : UInt8) (a0_1 : List UInt8) (a0_2 : UInt8) (r : List UInt8) : S := ⟨[], [(1000000, kP 0 0)], [⟨.blk, 58, 1, 2, .c [.wh 1, .s (.er 29 .i64 none)]⟩, ⟨.row, 64, 2, 2, .c [.s (.u8 a0_0), .wh 2, .s (.u8 a0_2), .wh 3]⟩, nb 5 a0_1, nb 5 r]⟩
def wPut2_ct (n : Nat) (r : List UInt8) : CtM := ctM (cmm (mP 58 (mC (mR 64 2 2 (mC mU8 (mC (mB 5) (mC mU8 (mC (mB 5) mN))))) (mC (mE0 29) mN))) fun y0 => cmc rU8.rd fun l1 => cmb fun l2 => cmR (wPut2 n y0.1.1 y0.1.2.1 y0.1.2.2.1 y0.1.2.2.2.1 l1 l2 = some r) (.t []) [⟨.blk, 58, 1, 2, .c [.wh 0, .s (.er 29 .i64 none)]⟩] [⟨.row, 64, 2, 2, .c [.s (.u8 y0.1.1), .wh 1, .s (.u8 y0.1.2.2.1), .wh 2]⟩, nb 5 y0.1.2.1, nb 5 r])
theorem wPut2_ok (n : Nat) (r : List UInt8) : FnMOk Try.prog 14 (wPut2_ct n r) := by
 refine fnokM Try.func14 ?_
 refine HM_m (mP 58 (mC (mR 64 2 2 (mC mU8 (mC (mB 5) (mC mU8 (mC (mB 5) mN))))) (mC (mE0 29) mN))) (fun (p0 : ((((UInt8) × (List UInt8) × (UInt8) × (List UInt8) × Unit)) × (Unit) × Unit)) => ?_) (allOwn_ok rfl)
 obtain ⟨⟨l0_0, l0_1, l0_2, l0_3, _⟩, _, _⟩ := p0
 refine HM_c rU8 fun l1 _ => HM_b 5 fun l2 => HM_0 tabO_nwa (wPut2_R l0_0 l0_1 l0_2 r) [] [0, 1, 2, 3] 27 1 Try.func14 fun w bs h => ?_
 have h : wPut2 n l0_0 l0_1 l0_2 l0_3 l1 l2 = some r := h
 unfold wPut2 at h
 have hT := tabO_nwa
 refine W_block ?_
 refine Vrs hT [0, 1, 2, 3, 4] ⟨[(0, kP 0 0), (1, kU l1), (2, kH 4), (10, kB false)], [(1000000, kP 0 0)], [⟨.blk, 58, 1, 2, .c [.wh 1, .s (.er 29 .i64 none)]⟩, ⟨.row, 64, 2, 2, .c [.s (.u8 l0_0), .wh 2, .s (.u8 l0_2), .wh 3]⟩, nb 5 l0_1, nb 5 l0_3, ob 5 l2]⟩ ?_
 refine Vi (false) (fun hb => by cases hb) (fun _ => ?_)
 refine W_seq ?_
 obtain ⟨r18, g1, h⟩ := bind_some' h
 rcases Bool.eq_false_or_eq_true (!r18) with g2 | g2
 ·replace h := bif_t h g2
  refine Vg hT (fT 1 (tvalid_ok n r18) fN) [(3, true)] [] [0, 1, 2, 3, 4] ⟨[(0, kP 0 0), (1, kU l1), (2, kH 4), (16, kB true)], [(1000000, kP 0 0)], [⟨.blk, 58, 1, 2, .c [.wh 1, .s (.er 29 .i64 none)]⟩, ⟨.row, 64, 2, 2, .c [.s (.u8 l0_0), .wh 2, .s (.u8 l0_2), .wh 3]⟩, nb 5 l0_1, nb 5 l0_3, ob 5 l2]⟩ (aP g1 (aP g2 aN)) ?_
  refine Vi (true) (fun _ => ?_) (fun hb => by cases hb)
  cases h
 ·replace h := bif_f h g2
  obtain ⟨r22, g3, h⟩ := bind_some' h
  refine Vg hT (fT 1 (tvalid_ok n r18) (fT 5 (tisW_ok n r22) fN)) [(3, false)] [] [0, 1, 2, 3, 4] ⟨[(0, kP 0 0), (1, kU l1), (2, kH 4), (16, kB r22)], [(1000000, kP 0 0)], [⟨.blk, 58, 1, 2, .c [.wh 1, .s (.er 29 .i64 none)]⟩, ⟨.row, 64, 2, 2, .c [.s (.u8 l0_0), .wh 2, .s (.u8 l0_2), .wh 3]⟩, nb 5 l0_1, nb 5 l0_3, ob 5 l2]⟩ (aP g1 (aP g2 (aP g3 aN))) ?_
  refine Vi (r22) (fun g5 => ?_) (fun g5 => ?_)
  ·replace h := bif_t h g5
   cases h
  ·replace h := bif_f h g5
   obtain ⟨r9, g4, h⟩ := bind_some' h
   refine Vg hT (fM 3 (wadd2_ok n r9) fN) [] [] [0, 5, 6, 7] (wPut2_R l0_0 l0_1 l0_2 r9) (aP g4 aN) ?_
   exact ⟨.inr rfl, by cases h; rfl⟩
def wClose2_R (a0_0 : UInt8) (r : List UInt8) : S := ⟨[], [(1000000, kP 0 0)], [⟨.blk, 58, 1, 2, .c [.wh 1, .s (.er 29 .i64 none)]⟩, ⟨.row, 64, 2, 1, .c [.s (.u8 a0_0), .wh 2]⟩, nb 5 r]⟩
def wClose2_ct (n : Nat) (r : List UInt8) : CtM := ctM (cmm (mP 58 (mC (mR 64 2 2 (mC mU8 (mC (mB 5) (mC mU8 (mC (mB 5) mN))))) (mC (mE0 29) mN))) fun y0 => cmR (wClose2 n y0.1.1 y0.1.2.1 y0.1.2.2.1 y0.1.2.2.2.1 = some r) (.t []) [⟨.blk, 58, 1, 2, .c [.wh 0, .s (.er 29 .i64 none)]⟩] [⟨.row, 64, 2, 1, .c [.s (.u8 y0.1.1), .wh 1]⟩, nb 5 r])
theorem wClose2_ok (n : Nat) (r : List UInt8) : FnMOk Try.prog 18 (wClose2_ct n r) := by
 refine fnokM Try.func18 ?_
 refine HM_m (mP 58 (mC (mR 64 2 2 (mC mU8 (mC (mB 5) (mC mU8 (mC (mB 5) mN))))) (mC (mE0 29) mN))) (fun (p0 : ((((UInt8) × (List UInt8) × (UInt8) × (List UInt8) × Unit)) × (Unit) × Unit)) => ?_) (allOwn_ok rfl)
 obtain ⟨⟨l0_0, l0_1, l0_2, l0_3, _⟩, _, _⟩ := p0
 refine HM_0 tabO_nwa (wClose2_R l0_0 r) [] [0, 1, 2] 51 1 Try.func18 fun w bs h => ?_
 have h : wClose2 n l0_0 l0_1 l0_2 l0_3 = some r := h
 unfold wClose2 at h
 have hT := tabO_nwa
 refine W_block ?_
 refine Vrs hT [0, 1, 2, 3] ⟨[(0, kP 0 0), (35, kB false)], [(1000000, kP 0 0)], [⟨.blk, 58, 1, 2, .c [.wh 1, .s (.er 29 .i64 none)]⟩, ⟨.row, 64, 2, 2, .c [.s (.u8 l0_0), .wh 2, .s (.u8 l0_2), .wh 3]⟩, nb 5 l0_1, nb 5 l0_3]⟩ ?_
 refine Vi (false) (fun hb => by cases hb) (fun _ => ?_)
 refine Vrs hT [0, 1, 2, 3] ⟨[(0, kP 0 0), (41, kB false)], [(1000000, kP 0 0)], [⟨.blk, 58, 1, 2, .c [.wh 1, .s (.er 29 .i64 none)]⟩, ⟨.row, 64, 2, 2, .c [.s (.u8 l0_0), .wh 2, .s (.u8 l0_2), .wh 3]⟩, nb 5 l0_1, nb 5 l0_3]⟩ ?_
 refine Vi (false) (fun hb => by cases hb) (fun _ => ?_)
 obtain ⟨g1, g2, g3, g4, h⟩ := gd4 h
 refine Vds hT fN 13 [] [(0, false), (2, false), (14, false)] [] [0, 1, 2, 3, 4] ⟨[(0, kP 0 0), (2, kP 4 0)], [(1000000, kP 0 0)], [⟨.blk, 58, 1, 2, .c [.wh 1, .s (.er 29 .i64 none)]⟩, ⟨.row, 64, 2, 2, .c [.s (.u8 l0_0), .wh 2, .s (.u8 l0_2), .wh 3]⟩, nb 5 l0_1, nb 5 l0_3, ⟨.blk, 64, 1, 2, .c [.s (.u8 l0_2), .wh 3]⟩]⟩ (aP g1 (aP g2 (aP g3 (aP g4 aN)))) ?_
 obtain ⟨g5, g6, g7, h⟩ := gd3 h
 refine Vds hT fN 13 [] [(0, false), (2, false), (26, false), (27, false)] [.cut 0 0] [0, 5, 2, 4, 3] ⟨[(0, kP 0 0), (2, kP 3 0)], [(1000000, kP 0 0)], [⟨.blk, 58, 1, 2, .c [.wh 1, .s (.er 29 .i64 none)]⟩, ⟨.row, 64, 2, 1, .c [.s (.u8 l0_0), .wh 2]⟩, nb 5 l0_1, ⟨.blk, 64, 1, 2, .c [.s (.u8 l0_2), .wh 4]⟩, nb 5 l0_3]⟩ (aP g5 (aP g6 (aP g7 aN))) ?_
 obtain ⟨r34, g8, h⟩ := bind_some' h
 refine Vg hT (fM 5 (wadd1_ok n r34) fN) [] [] [0, 5, 6] (wClose2_R l0_0 r34) (aP g8 aN) ?_
 exact ⟨.inr rfl, by cases h; rfl⟩
def wBytes1_R (a0_0 : UInt8) (a0_1 : List UInt8) (r : Unit) : S := ⟨[(2, kH 3), (3, kE 29 none)], [(1000000, kP 0 0)], [⟨.blk, 58, 1, 2, .c [.wh 1, .s (.er 29 .i64 none)]⟩, ⟨.row, 64, 2, 1, .c [.s (.u8 a0_0), .wh 2]⟩, nb 5 a0_1, nb 5 a0_1]⟩
def wBytes1_ct (n : Nat) (r : Unit) : CtM := ctM (cmm (mP 58 (mC (mR 64 2 1 (mC mU8 (mC (mB 5) mN))) (mC (mE0 29) mN))) fun y0 => cmR (wBytes1 n y0.1.1 y0.1.2.1 = some r) (.t [.c (.wh 2), .c (.s (.er 29 .i64 none))]) [⟨.blk, 58, 1, 2, .c [.wh 0, .s (.er 29 .i64 none)]⟩] [⟨.row, 64, 2, 1, .c [.s (.u8 y0.1.1), .wh 1]⟩, nb 5 y0.1.2.1, nb 5 y0.1.2.1])
theorem wBytes1_ok (n : Nat) (r : Unit) : FnMOk Try.prog 20 (wBytes1_ct n r) := by
 refine fnokM Try.func20 ?_
 refine HM_m (mP 58 (mC (mR 64 2 1 (mC mU8 (mC (mB 5) mN))) (mC (mE0 29) mN))) (fun (p0 : ((((UInt8) × (List UInt8) × Unit)) × (Unit) × Unit)) => ?_) (allOwn_ok rfl)
 obtain ⟨⟨l0_0, l0_1, _⟩, _, _⟩ := p0
 refine HM_0 tabO_nwa (wBytes1_R l0_0 l0_1 r) [.tmp 2, .tmp 3] [0, 1, 2, 3] 30 1 Try.func20 fun w bs h => ?_
 have h : wBytes1 n l0_0 l0_1 = some r := h
 unfold wBytes1 at h
 have hT := tabO_nwa
 refine Vrs hT [0, 1, 2] ⟨[(0, kP 0 0)], [(1000000, kP 0 0)], [⟨.blk, 58, 1, 2, .c [.wh 1, .s (.er 29 .i64 none)]⟩, ⟨.row, 64, 2, 1, .c [.s (.u8 l0_0), .wh 2]⟩, nb 5 l0_1]⟩ ?_
 refine W_seq ?_
 refine W_block ?_
 refine Vrs hT [0, 1, 2] ⟨[(0, kP 0 0), (4, kB false)], [(1000000, kP 0 0)], [⟨.blk, 58, 1, 2, .c [.wh 1, .s (.er 29 .i64 none)]⟩, ⟨.row, 64, 2, 1, .c [.s (.u8 l0_0), .wh 2]⟩, nb 5 l0_1]⟩ ?_
 refine Vi (false) (fun hb => by cases hb) (fun _ => ?_)
 refine Vrs hT [0, 1, 2] ⟨[(0, kP 0 0), (14, kB false)], [(1000000, kP 0 0)], [⟨.blk, 58, 1, 2, .c [.wh 1, .s (.er 29 .i64 none)]⟩, ⟨.row, 64, 2, 1, .c [.s (.u8 l0_0), .wh 2]⟩, nb 5 l0_1]⟩ ?_
 refine Vi (false) (fun hb => by cases hb) (fun _ => ?_)
 refine W_skip ?_
 obtain ⟨g1, g2, g3, g4, h⟩ := gd4 h
 refine Vgs hT (fT 7 cloneb_h fN) [] [] [0, 1, 2, 3] ⟨[(2, kH 3), (3, .c (.s (.v .nilIface)))], [(1000000, kP 0 0)], [⟨.blk, 58, 1, 2, .c [.wh 1, .s (.er 29 .i64 none)]⟩, ⟨.row, 64, 2, 1, .c [.s (.u8 l0_0), .wh 2]⟩, nb 5 l0_1, nb 5 l0_1]⟩ (aP g1 (aP g2 (aP g3 (aP g4 aN)))) ?_
 refine Vc [.er 3 29 .i64] [0, 1, 2, 3] (wBytes1_R l0_0 l0_1 ()) (W_ret ?_)
 exact ⟨.inl rfl, by cases h; rfl⟩
end Go.Proofs.Ytcdljciflkefaaa
end
