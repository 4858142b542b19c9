import Derived.Test.YtpinmaodpfoinaaSxA
set_option linter.unusedVariables false
set_option linter.unusedSimpArgs false
namespace Go.Sx
open Go.RowKit Go.Ch

/-! ### types, as far as the walk asks of them -/
inductive Td where
  | sl (e : TypeId) | arr (n : Nat) (e : TypeId) | st (fs : List (TypeId × Nat)) | int (k : IntKind) | bool | str | ifc | ptr (e : TypeId) | oth
def tdOf : TypeDesc → Td
  | .slice e => .sl e
  | .array n e => .arr n e
  | .struct fs => .st (fs.toList.map fun f => (f.type, f.offset))
  | .int k => .int k
  | .bool => .bool
  | .string => .str
  | .interface _ => .ifc
  | .pointer e => .ptr e
  | _ => .oth
/-- noughts -/
inductive Z where
  | int (k : IntKind) | bool | str | nils | ifc | ptr
  deriving DecidableEq
def Z.val : Z → Value
  | .int k => .int k 0
  | .bool => .bool false
  | .str => .string ⟨#[]⟩
  | .nils => .slice none 0 0
  | .ifc => .nilIface
  | .ptr => .pointer none
def zOf : Value → Option Z
  | .int k n => if n = 0 then some (.int k) else none
  | .bool b => if b then none else some .bool
  | .string s => if s.data.size = 0 then some .str else none
  | .slice a n c => match a with | none => if n = 0 ∧ c = 0 then some .nils else none | some _ => none
  | .nilIface => some .ifc
  | .pointer a => match a with | none => some .ptr | some _ => none
  | _ => none
theorem zOf_ok {v : Value} {z : Z} (h : zOf v = some z) : v = z.val := by
  unfold zOf at h
  split at h <;> (try split at h) <;> (try split at h) <;> simp_all [Z.val]
  · subst h; simp [*]
  · subst h; simp [*]
  · subst h; rfl
  · subst h; rfl
  · subst h; rfl
  · subst h; rfl
structure Ti where
  d : Td
  size : Nat
  bytes : Nat
  cmp : Bool
  z : Option (List Z)
def tiOf (P : Program) (t : TypeId) : Option Ti :=
  match P.underlying t with
  | none => none
  | some d => match P.info? t with
    | none => none
    | some i => some ⟨tdOf d, i.size, i.bytes, i.comparable, match i.zero with | none => none | some z => z.cells.toList.mapM zOf⟩
abbrev Tab := TypeId → Option Ti
def TabOk (P : Program) (T : Tab) : Prop := ∀ t ti, T t = some ti → tiOf P t = some ti

structure TiOk (P : Program) (t : TypeId) (ti : Ti) : Prop where
  d : ∃ d, P.underlying t = some d ∧ tdOf d = ti.d
  i : ∃ i, P.info? t = some i ∧ i.size = ti.size ∧ i.bytes = ti.bytes ∧ i.comparable = ti.cmp ∧ ∀ zs, ti.z = some zs → ∃ z, i.zero = some z ∧ z.cells = (zs.map Z.val).toArray
theorem mapM_zOf : ∀ {vs : List Value} {zs : List Z}, vs.mapM zOf = some zs → vs = zs.map Z.val
  | [], zs, h => by simp at h; subst h; rfl
  | v :: vs, zs, h => by
    rw [List.mapM_cons] at h
    cases hv : zOf v with
    | none => simp [hv] at h
    | some z =>
      cases hvs : vs.mapM zOf with
      | none => simp [hv, hvs] at h
      | some zs' =>
        simp [hv, hvs] at h
        subst h
        rw [List.map_cons, ← zOf_ok hv, ← mapM_zOf hvs]
theorem TabOk.at {P : Program} {T : Tab} (h : TabOk P T) {t : TypeId} {ti : Ti} (ht : T t = some ti) : TiOk P t ti := by
  have h1 := h t ti ht
  unfold tiOf at h1
  cases hd : P.underlying t with
  | none => rw [hd] at h1; cases h1
  | some d =>
    cases hi : P.info? t with
    | none => rw [hd, hi] at h1; cases h1
    | some i =>
      rw [hd, hi] at h1
      injection h1 with h1
      subst h1
      refine ⟨⟨d, hd, rfl⟩, i, hi, rfl, rfl, rfl, fun zs hz => ?_⟩
      cases hzz : i.zero with
      | none => simp only [hzz] at hz; cases hz
      | some z =>
        simp only [hzz] at hz
        exact ⟨z, rfl, by rw [← mapM_zOf hz]⟩
section
variable {P : Program} {t : TypeId} {ti : Ti}
theorem TiOk.sl (h : TiOk P t ti) {e} (hd : ti.d = .sl e) : P.underlying t = some (.slice e) := by
  obtain ⟨d, h1, h2⟩ := h.d
  rw [hd] at h2; cases d <;> simp [tdOf] at h2; subst h2; exact h1
theorem TiOk.arr (h : TiOk P t ti) {n e} (hd : ti.d = .arr n e) : P.underlying t = some (.array n e) := by
  obtain ⟨d, h1, h2⟩ := h.d
  rw [hd] at h2; cases d <;> simp [tdOf] at h2; obtain ⟨rfl, rfl⟩ := h2; exact h1
theorem TiOk.int (h : TiOk P t ti) {k} (hd : ti.d = .int k) : P.underlying t = some (.int k) := by
  obtain ⟨d, h1, h2⟩ := h.d
  rw [hd] at h2; cases d <;> simp [tdOf] at h2; subst h2; exact h1
theorem TiOk.str (h : TiOk P t ti) (hd : ti.d = .str) : P.underlying t = some .string := by
  obtain ⟨d, h1, h2⟩ := h.d
  rw [hd] at h2; cases d <;> simp [tdOf] at h2; exact h1
theorem TiOk.bool (h : TiOk P t ti) (hd : ti.d = .bool) : P.underlying t = some .bool := by
  obtain ⟨d, h1, h2⟩ := h.d
  rw [hd] at h2; cases d <;> simp [tdOf] at h2; exact h1
theorem TiOk.ifc (h : TiOk P t ti) (hd : ti.d = .ifc) : ∃ ms, P.underlying t = some (.interface ms) := by
  obtain ⟨d, h1, h2⟩ := h.d
  rw [hd] at h2; cases d <;> simp [tdOf] at h2; exact ⟨_, h1⟩
theorem TiOk.st (h : TiOk P t ti) {fs} (hd : ti.d = .st fs) : ∃ f, P.underlying t = some (.struct f) ∧ f.toList.map (fun f => (f.type, f.offset)) = fs := by
  obtain ⟨d, h1, h2⟩ := h.d
  rw [hd] at h2; cases d <;> simp [tdOf] at h2; exact ⟨_, h1, h2⟩
theorem TiOk.agg (h : TiOk P t ti) (hd : (match ti.d with | .st _ | .arr _ _ => true | _ => false) = true) : ∃ d, P.underlying t = some d ∧ (match d with | .struct _ | .array _ _ => true | _ => false) = true := by
  obtain ⟨d, h1, h2⟩ := h.d
  rw [← h2] at hd
  exact ⟨d, h1, by cases d <;> simp_all [tdOf]⟩
theorem TiOk.nagg (h : TiOk P t ti) (hd : (match ti.d with | .st _ | .arr _ _ => true | _ => false) = false) : ∃ d, P.underlying t = some d ∧ (match d with | .struct _ | .array _ _ => false | _ => true) = true := by
  obtain ⟨d, h1, h2⟩ := h.d
  rw [← h2] at hd
  exact ⟨d, h1, by cases d <;> simp_all [tdOf]⟩
end

/-! ### what stands in slots and in memory -/
inductive Cl where
  | s (x : Sc) | nils | wh (i : Nat) | sl (i lo n : Nat) | pt (i off : Nat) | junk
inductive Cs where
  | b (l : List UInt8) | w (l : List UInt32) | q (l : List UInt64) | z (l : List Int) | c (l : List Cl)
inductive A1 where
  | c (x : Cl) | g (n : Nat) (cs : Cs)
inductive AV where
  | c (x : Cl) | g (n : Nat) (cs : Cs) | t (xs : List A1)
def A1.av : A1 → AV
  | .c x => .c x
  | .g n cs => .g n cs
def Cs.cl : Cs → List Cl
  | .b l => l.map fun x => .s (.u8 x)
  | .w l => l.map fun x => .s (.u32 x)
  | .q l => l.map fun x => .s (.u64 x)
  | .z l => l.map fun x => .s (.k .i64 x)
  | .c l => l
inductive Kd where
  | ro (fs : Bool) | row | blk | dead
  deriving DecidableEq
/-- an object: how it is held, its elements' type and size, how many elements, its cells -/
structure Oj where
  kd : Kd
  e : TypeId
  sz : Nat
  n : Nat
  cs : Cs
structure Pl where
  A : Option Addr
  n : Nat
  cap : Nat
  sz : Nat

def F2 {α β : Type} (R : α → β → Prop) (xs : List α) (ys : List β) : Prop := xs.length = ys.length ∧ ∀ (j : Nat) (x : α) (y : β), xs[j]? = some x → ys[j]? = some y → R x y
theorem F2.at {α β : Type} {R : α → β → Prop} {xs : List α} {ys : List β} (h : F2 R xs ys) {j : Nat} {x : α} (hx : xs[j]? = some x) : ∃ y, ys[j]? = some y ∧ R x y := by
  have hj := (List.getElem?_eq_some_iff.1 hx).1
  have hj' : j < ys.length := by rw [← h.1]; exact hj
  exact ⟨ys[j], List.getElem?_eq_getElem hj', h.2 j x _ hx (List.getElem?_eq_getElem hj')⟩
theorem F2.mono {α β : Type} {R R' : α → β → Prop} {xs : List α} {ys : List β} (h : F2 R xs ys) (hr : ∀ x ∈ xs, ∀ y, R x y → R' x y) : F2 R' xs ys :=
  ⟨h.1, fun j x y hx hy => hr x (List.mem_of_getElem? hx) y (h.2 j x y hx hy)⟩
theorem F2.nil {α β : Type} {R : α → β → Prop} : F2 R ([] : List α) ([] : List β) := ⟨rfl, fun j x y hx => by simp at hx⟩
theorem F2.cons {α β : Type} {R : α → β → Prop} {x : α} {y : β} {xs : List α} {ys : List β} (h : R x y) (hs : F2 R xs ys) : F2 R (x :: xs) (y :: ys) :=
  ⟨by simp [hs.1], fun j a b ha hb => by
    cases j with
    | zero => simp at ha hb; subst ha; subst hb; exact h
    | succ j => exact hs.2 j a b (by simpa using ha) (by simpa using hb)⟩
theorem F2.append {α β : Type} {R : α → β → Prop} {xs xs' : List α} {ys ys' : List β} (h : F2 R xs ys) (h' : F2 R xs' ys') : F2 R (xs ++ xs') (ys ++ ys') := by
  refine ⟨by simp [h.1, h'.1], fun j a b ha hb => ?_⟩
  by_cases hj : j < xs.length
  · rw [List.getElem?_append_left hj] at ha
    rw [List.getElem?_append_left (by rw [← h.1]; exact hj)] at hb
    exact h.2 j a b ha hb
  · rw [List.getElem?_append_right (by omega)] at ha
    rw [List.getElem?_append_right (by rw [← h.1]; omega), ← h.1] at hb
    exact h'.2 _ a b ha hb
theorem F2.take {α β : Type} {R : α → β → Prop} {xs : List α} {ys : List β} (h : F2 R xs ys) (n : Nat) : F2 R (xs.take n) (ys.take n) :=
  ⟨by simp [h.1], fun j a b ha hb => by
    rw [List.getElem?_take] at ha hb
    split at ha
    · rw [if_pos (by assumption)] at hb; exact h.2 j a b ha hb
    · cases ha⟩
theorem F2.drop {α β : Type} {R : α → β → Prop} {xs : List α} {ys : List β} (h : F2 R xs ys) (n : Nat) : F2 R (xs.drop n) (ys.drop n) :=
  ⟨by simp [h.1], fun j a b ha hb => by
    rw [List.getElem?_drop] at ha hb
    exact h.2 _ a b ha hb⟩
theorem F2.set {α β : Type} {R : α → β → Prop} {xs : List α} {ys : List β} (h : F2 R xs ys) (n : Nat) {x : α} {y : β} (hx : R x y) : F2 R (xs.set n x) (ys.set n y) := by
  refine ⟨by simp [h.1], fun j a b ha hb => ?_⟩
  rw [List.getElem?_set] at ha hb
  by_cases hj : n = j
  · subst hj
    rw [if_pos rfl] at ha hb
    split at ha
    · rw [if_pos (by rw [← h.1]; assumption)] at hb
      injection ha with ha; injection hb with hb
      subst ha; subst hb; exact hx
    · cases ha
  · rw [if_neg hj] at ha hb
    exact h.2 j a b ha hb

abbrev Pls := Nat → Pl
def clR (ρ : Pls) : Cl → Value → Prop
  | .s x, v => v = x.val
  | .wh i, v => v = .slice (ρ i).A (ρ i).n (ρ i).cap
  | .nils, v => v = .slice none 0 0
  | .sl i lo n, v => lo + n ≤ (ρ i).n ∧ ∃ A c, v = .slice A n c ∧ n ≤ c ∧ c ≤ maxLen ∧ (A = none → c = 0) ∧ (0 < n → A = (ρ i).A.map (·.add (lo * (ρ i).sz)))
  | .pt i off, v => off < (ρ i).n * (ρ i).sz ∧ ∃ ad, (ρ i).A = some ad ∧ v = .pointer (some (ad.add off))
  | .junk, _ => True
def csR (ρ : Pls) (cs : Cs) (vs : List Value) : Prop := F2 (clR ρ) cs.cl vs
def a1R (ρ : Pls) : A1 → Value → Prop
  | .c x, v => clR ρ x v
  | .g n cs, v => ∃ vs, csR ρ cs vs ∧ vs.length = n ∧ v = .agg vs.toArray
def avR (ρ : Pls) : AV → Value → Prop
  | .c x, v => clR ρ x v
  | .g n cs, v => ∃ vs, csR ρ cs vs ∧ vs.length = n ∧ v = .agg vs.toArray
  | .t xs, v => ∃ vs, F2 (a1R ρ) xs vs ∧ v = .tuple vs.toArray
theorem a1R_av {ρ : Pls} {x : A1} {v : Value} (h : a1R ρ x v) : avR ρ x.av v := by cases x <;> exact h

theorem csR_map {ρ : Pls} {α : Type} (l : List α) (f : α → Sc) (vs : List Value) : F2 (clR ρ) (l.map fun x => Cl.s (f x)) vs ↔ vs = l.map fun x => (f x).val := by
  constructor
  · intro h
    apply List.ext_getElem?
    intro j
    by_cases hj : j < l.length
    · have h1 : (l.map fun x => Cl.s (f x))[j]? = some (.s (f l[j])) := by simp [List.getElem?_eq_getElem hj]
      obtain ⟨v, hv, hr⟩ := h.at h1
      rw [hv, hr]
      simp [List.getElem?_eq_getElem hj]
    · have h1 := h.1
      simp at h1
      rw [List.getElem?_eq_none (by omega), List.getElem?_eq_none (by simp; omega)]
  · rintro rfl
    refine ⟨by simp, fun j x y hx hy => ?_⟩
    simp only [List.getElem?_map] at hx hy
    cases h : l[j]? with
    | none => simp [h] at hx
    | some a => simp [h] at hx hy; subst hx; subst hy; rfl
theorem csR_b {ρ : Pls} {l : List UInt8} {vs : List Value} : csR ρ (.b l) vs ↔ vs = l.map bU := csR_map l _ vs
theorem csR_w {ρ : Pls} {l : List UInt32} {vs : List Value} : csR ρ (.w l) vs ↔ vs = l.map w32 := csR_map l _ vs
theorem csR_q {ρ : Pls} {l : List UInt64} {vs : List Value} : csR ρ (.q l) vs ↔ vs = l.map w64 := csR_map l _ vs
theorem csR_z {ρ : Pls} {l : List Int} {vs : List Value} : csR ρ (.z l) vs ↔ vs = l.map (Value.int .i64) := csR_map l _ vs

/-! ### memory -/
/-- cells vs lie from an address on -/
def At (w : World) (A : Option Addr) (vs : List Value) : Prop := ∀ ad, A = some ad → ∀ j u, vs[j]? = some u → w.cell? (ad.add j) = some u
def objR (ρ : Pls) (w : World) (p : Pl) (o : Oj) : Prop :=
  match o.kd with
  | .dead => True
  | .ro _ => (p.sz = o.sz ∧ p.n = o.n ∧ o.cs.cl.length = o.n * o.sz) ∧ (p.n ≤ p.cap ∧ p.cap ≤ maxLen ∧ (p.A = none → p.cap = 0)) ∧ ∃ vs, csR ρ o.cs vs ∧ At w p.A vs
  | .row => (p.sz = o.sz ∧ p.n = o.n ∧ o.cs.cl.length = o.n * o.sz) ∧ ∃ vs, csR ρ o.cs vs ∧ w.ownsRow 0 o.e o.sz (.slice p.A p.n p.cap) p.n vs
  | .blk => (p.sz = o.sz ∧ p.n = o.n ∧ o.cs.cl.length = o.n * o.sz) ∧ ∃ b vs, p.A = some ⟨b, 0, none⟩ ∧ csR ρ o.cs vs ∧ Blk w b o.e vs.toArray
/-- an object has cells in block g -/
def objAt (p : Pl) (o : Oj) (g : Nat) : Prop := match o.kd with
  | .dead => False
  | .ro _ => p.n * p.sz ≠ 0 ∧ ∃ ad, p.A = some ad ∧ ad.block = g
  | _ => ∃ ad, p.A = some ad ∧ ad.block = g
def Oj.own (o : Oj) : Bool := match o.kd with | .row | .blk => true | _ => false
/-- it lies in memory that is new -/
def Oj.fsh (o : Oj) : Bool := match o.kd with | .row | .blk | .ro true => true | _ => false
theorem Oj.fsh_own {o : Oj} (h : o.own = true) : o.fsh = true := by
  unfold Oj.own at h; unfold Oj.fsh
  cases hk : o.kd <;> simp only [hk] at h ⊢ <;> cases h

/-- blocks that may be written into; values that are spoken of -/
structure Bs where
  p : Nat → Prop
  gv : Nat → Value
instance : CoeFun Bs fun _ => Nat → Prop := ⟨Bs.p⟩
def noB (gv : Nat → Value) : Bs := ⟨fun _ => False, gv⟩
def gvOf (bs : Bs) (t : Nat) : Value := if t < 1000000 then .pointer (some ⟨t, 0, none⟩) else bs.gv (t - 1000000)
/-- what the world keeps: all that was there but the blocks of bs -/
structure Kp (bs : Bs) (w0 w : World) : Prop where
  os : w.os = w0.os
  tape : w.tape = w0.tape
  output : w.output = w0.output
  size : w0.heap.size ≤ w.heap.size
  block : ∀ k, k < w0.heap.size → ¬ bs k → w.heap[k]? = w0.heap[k]?
theorem Kp.refl (bs : Bs) (w : World) : Kp bs w w := ⟨rfl, rfl, rfl, Nat.le_refl _, fun _ _ _ => rfl⟩
theorem Kp.grown {bs : Bs} {w0 w w' : World} {row : Option Nat} (h : Kp bs w0 w) (hg : w.grownBy w' row) (hr : ∀ g, row = some g → w0.heap.size ≤ g ∨ bs g) : Kp bs w0 w' :=
  ⟨hg.os.trans h.os, hg.tape.trans h.tape, hg.output.trans h.output, Nat.le_trans h.size hg.size, fun k hk hb => (hg.block k (Nat.lt_of_lt_of_le hk h.size) (fun e => (hr k e.symm).elim (fun h1 => absurd hk (by omega)) hb)).trans (h.block k hk hb)⟩
theorem Kp.drew {bs : Bs} {w0 w : World} (h : Kp bs w0 w) : Kp bs w0 w.drew := ⟨h.os, h.tape, h.output, h.size, h.block⟩
theorem Kp.ext {bs : Bs} {w0 w w' : World} (h : Kp bs w0 w) (hx : Ext w w') : Kp bs w0 w' :=
  ⟨hx.os.trans h.os, hx.tape.trans h.tape, hx.output.trans h.output, Nat.le_trans h.size hx.size, fun k hk hb => (hx.block k (Nat.lt_of_lt_of_le hk h.size)).trans (h.block k hk hb)⟩
theorem Kp.below {gv : Nat → Value} {w0 w : World} (h : Kp (noB gv) w0 w) : Ext w0 w := ⟨h.os, h.tape, h.output, h.size, fun k hk => h.block k hk (fun e => e)⟩

theorem Addr.block_addL (a : Addr) (n : Nat) : (a.add n).block = a.block := block_add a n
theorem At.keep {w w' : World} {A : Option Addr} {vs : List Value} (h : At w A vs) (hb : ∀ ad, A = some ad → vs ≠ [] → w'.heap[ad.block]? = w.heap[ad.block]?) : At w' A vs := by
  intro ad ha j u hu
  have h1 := h ad ha j u hu
  have hne : vs ≠ [] := by rintro rfl; simp at hu
  rw [World.cell?_of_block (w := w) (by rw [block_add]; exact hb ad ha hne)]
  exact h1
theorem csR.len {ρ : Pls} {cs : Cs} {vs : List Value} (h : csR ρ cs vs) : vs.length = cs.cl.length := h.1.symm
theorem objR.keep {ρ : Pls} {w w' : World} {p : Pl} {o : Oj} (h : objR ρ w p o) (hb : ∀ g, g < w.heap.size → objAt p o g → w'.heap[g]? = w.heap[g]?) : objR ρ w' p o := by
  unfold objR at h ⊢
  unfold objAt at hb
  cases hk : o.kd with
  | dead => rw [hk] at h; exact h
  | ro fs =>
    simp only [hk] at h hb ⊢
    obtain ⟨h0, h1, vs, hc, hA⟩ := h
    refine ⟨h0, h1, vs, hc, hA.keep fun ad ha hne => ?_⟩
    have hl := csR.len hc
    have hn : p.n * p.sz ≠ 0 := by
      intro e
      rw [h0.2.2, ← h0.2.1, ← h0.1, e] at hl
      exact hne (List.eq_nil_of_length_eq_zero hl)
    cases hv : vs[0]? with
    | none => exact absurd (List.eq_nil_of_length_eq_zero (by rw [List.getElem?_eq_none_iff] at hv; omega)) hne
    | some u =>
      have := World.block_lt_of_cell? _ _ (hA ad ha 0 u hv)
      rw [block_add] at this
      exact hb _ this ⟨hn, ad, ha, rfl⟩
  | row =>
    simp only [hk] at h hb ⊢
    obtain ⟨h0, vs, hc, hr⟩ := h
    refine ⟨h0, vs, hc, hr.1, ?_⟩
    rcases hr.2 with hr2 | ⟨g, cap, cur, hv, hg0, hg, r⟩
    · exact .inl hr2
    · refine .inr ⟨g, cap, cur, hv, hg0, ?_, r⟩
      injection hv with hv1
      rw [hb g (Array.getElem?_eq_some_iff.1 hg).1 ⟨_, hv1, rfl⟩]; exact hg
  | blk =>
    simp only [hk] at h hb ⊢
    obtain ⟨h0, b, vs, hA, hc, hB⟩ := h
    refine ⟨h0, b, vs, hA, hc, ?_⟩
    unfold Blk
    rw [hb b hB.lt ⟨_, hA, rfl⟩]
    exact hB
/-- an object's cells can be read -/
theorem objR.read {ρ : Pls} {w : World} {p : Pl} {o : Oj} (h : objR ρ w p o) (hk : o.kd ≠ .dead) : (p.sz = o.sz ∧ p.n = o.n ∧ o.cs.cl.length = o.n * o.sz) ∧ ∃ vs, csR ρ o.cs vs ∧ At w p.A vs := by
  unfold objR at h
  cases hkd : o.kd with
  | dead => exact absurd hkd hk
  | ro fs => simp only [hkd] at h; exact ⟨h.1, h.2.2⟩
  | row =>
    simp only [hkd] at h
    obtain ⟨h0, vs, hc, hr⟩ := h
    refine ⟨h0, vs, hc, fun ad ha j u hu => ?_⟩
    rcases hr.2 with ⟨hv, hn⟩ | ⟨g, cap, cur, hv, _⟩
    · have := hr.1; rw [hn, Nat.zero_mul] at this
      rw [List.eq_nil_of_length_eq_zero this] at hu; simp at hu
    · injection hv with hv1
      rw [ha] at hv1; injection hv1 with hv1; subst hv1
      exact World.ownsRow.cells hr (g := g) (by rw [ha]; rfl) j u hu
  | blk =>
    simp only [hkd] at h
    obtain ⟨h0, b, vs, hA, hc, hB⟩ := h
    refine ⟨h0, vs, hc, fun ad ha j u hu => ?_⟩
    rw [hA] at ha; injection ha with ha; subst ha
    have e1 : (⟨b, 0, none⟩ : Addr).add j = ⟨b, j, none⟩ := by unfold Addr.add; split <;> simp_all
    rw [e1, hB.cell]
    simpa using hu
theorem objR.slc {ρ : Pls} {w : World} {p : Pl} {o : Oj} (h : objR ρ w p o) (hk : (∃ b, o.kd = .ro b) ∨ o.kd = .row) : p.n ≤ p.cap ∧ p.cap ≤ maxLen ∧ (p.A = none → p.cap = 0) := by
  unfold objR at h
  rcases hk with ⟨b, hk⟩ | hk
  · simp only [hk] at h; exact h.2.1
  · simp only [hk] at h
    obtain ⟨h0, vs, hc, hr⟩ := h
    rcases hr.2 with ⟨hv, hn⟩ | ⟨g, cap, cur, hv, _, _, h1, h2, _⟩
    · injection hv with a b c
      exact ⟨by omega, by rw [c]; simp [maxLen], fun _ => c⟩
    · injection hv with a b c
      subst c
      exact ⟨h1, h2, fun e => by rw [e] at a; cases a⟩

abbrev Hp := List Oj
def HpR (ρ : Pls) (w : World) (H : Hp) : Prop := ∀ (i : Nat) (o : Oj), H[i]? = some o → objR ρ w (ρ i) o
def SepR (ρ : Pls) (H : Hp) : Prop := ∀ (i j : Nat) (a b : Oj) (g : Nat), i ≠ j → H[i]? = some a → H[j]? = some b → a.own = true → objAt (ρ i) a g → ¬ objAt (ρ j) b g
def OwnR (bs : Bs) (w0 : World) (ρ : Pls) (H : Hp) : Prop := ∀ (i : Nat) (a : Oj) (g : Nat), H[i]? = some a → a.fsh = true → objAt (ρ i) a g → w0.heap.size ≤ g ∨ bs g

abbrev Fr := List (Nat × AV)
structure S where
  fr : Fr
  gl : Fr
  H : Hp
def FrR (ρ : Pls) (fr : Fr) (a : Act) : Prop := ∀ t x, fr.lookup t = some x → avR ρ x (a.tmps.getD t undef)
def GlR (bs : Bs) (ρ : Pls) (gl : Fr) : Prop := ∀ t x, gl.lookup t = some x → avR ρ x (gvOf bs t)
def glk (gl : Fr) (g : Nat) : Option AV := match decide (g < 1000000) with | true => gl.lookup g | false => none
theorem glk_ok {bs : Bs} {ρ : Pls} {gl : Fr} {g : Nat} {x : AV} (h : glk gl g = some x) (hgl : GlR bs ρ gl) : gl.lookup g = some x ∧ avR ρ x (.pointer (some ⟨g, 0, none⟩)) := by
  unfold glk at h
  split at h
  · rename_i hd
    simp only [decide_eq_true_eq] at hd
    have := hgl g x h
    unfold gvOf at this
    rw [if_pos hd] at this
    exact ⟨h, this⟩
  · cases h

structure RelA (ρ : Pls) (bs : Bs) (w0 : World) (s : S) (a : Act) (w : World) : Prop where
  fr : FrR ρ s.fr a
  gl : GlR bs ρ s.gl
  hp : HpR ρ w s.H
  sep : SepR ρ s.H
  own : OwnR bs w0 ρ s.H
  kp : Kp bs w0 w
structure Rel (N : Nat) (bs : Bs) (w0 : World) (s : S) (a : Act) (w : World) : Prop where
  dfr : a.defers = []
  size : a.tmps.size = N
  ex : ∃ ρ, RelA ρ bs w0 s a w
end Go.Sx
