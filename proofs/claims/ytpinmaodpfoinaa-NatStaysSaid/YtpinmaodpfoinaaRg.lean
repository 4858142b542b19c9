import Derived.Test.YtpinmaodpfoinaaBs
set_option linter.unusedVariables false
set_option linter.unusedSimpArgs false
namespace Go.Ch
open Go.RowKit

/-- what is known of a value, in a world -/
abbrev Pred := Value → World → Prop

section region
variable {P : Program} {ops : Array Oper} {X : World → World → Prop} {w0 : World}

/-- one operation of a region, whatever else of the region has been carried out: it yields a value that R holds of -/
def Ob (P : Program) (ops : Array Oper) (X : World → World → Prop) (w0 : World) (o : Oper) (E : Nat → Pred) (R : Pred) : Prop :=
  ∀ (a : Act) (w : World), X w0 w → a.defers = [] → (∀ t ∈ o.looksAt ops, E t (a.tmps.getD t undef) w) →
    if Region.wanted o (yielded ops a.tmps) = true then o.wp P a w (fun a' w' => ∃ v, a' = a.put o.dst v ∧ X w w' ∧ R v w') (fun _ _ _ => False) else R undef w

def upd (E : Nat → Pred) (d : Option Tmp) (R : Pred) : Nat → Pred := match d with
  | some d => fun t => if t = d then R else E t
  | none => E

/-- the operations in the text's order, each with what is known of its value -/
def RW (P : Program) (ops : Array Oper) (X : World → World → Prop) (w0 : World) : List Oper → (Nat → Pred) → (List (Option Tmp × Pred) → Prop) → Prop
  | [], _, K => K []
  | o :: rest, E, K => ∃ R : Pred, (∀ v w w', X w w' → R v w → R v w') ∧ Ob P ops X w0 o E R ∧ RW P ops X w0 rest (upd E o.dst R) (fun L => K ((o.dst, R) :: L))

def Fin (Q : Act → World → Prop) : List (Option Tmp × Pred) → Act → World → Prop
  | [], a, w => Q a w
  | (d, R) :: rest, a, w => ∀ v, R v w → Fin Q rest (a.put d v) w

def okEdges (o : Oper) (f : Nat → Bool) : Bool := o.after.all fun e => !Region.binds .any e || f e.on
def hasEdge (o : Oper) (j : Nat) : Bool := o.after.any fun e => Region.binds .any e && e.on == j

/-- operation j is ahead of operation i, through others -/
def hasE (ops : Array Oper) (i j : Nat) : Bool := match ops[i]? with | some o => hasEdge o j | none => false
def inC (ops : Array Oper) (i : Nat) : Nat → Nat → Bool
  | 0, j => hasE ops i j
  | f + 1, j => hasE ops i j || (List.range ops.size).any fun m => decide (j < m) && (hasE ops m j && inC ops i f m)
/-- the region's first k operations are apart from one another but where edges say otherwise; the rest stands behind all -/
def okRegion (ops : Array Oper) (k n : Nat) (dl : Option Nat := none) : Bool :=
  (List.range ops.size).all fun i => match ops[i]? with
    | none => false
    | some o =>
      okEdges o (fun j => decide (j < i)) &&
      (if i < k then
        (match o.dst with | some d => decide (d < n) | none => true) &&
        ((List.range k).all fun j => match ops[j]? with
          | none => false
          | some oj =>
            (match o.dst, oj.dst with | some d, some d' => i == j || d != d' | _, _ => true) &&
            ((o.looksAt ops).all fun t => oj.dst != some t || (decide (j < i) && hasEdge o j) || (decide (i < j) && hasEdge oj i)))
       else (List.range i).all fun j => hasEdge o j || (i == k && dl == some j && decide (j < k)) || (decide (j < k) && (dl.isNone && inC ops i ops.size j)))

/-- the frame in which just the listed operations have left their values -/
def framed (ops : Array Oper) (listed : Nat → Bool) (vals : Nat → Value) : Nat → Act → Act
  | 0, a => a
  | k + 1, a => let a' := framed ops listed vals k a; if listed k then a'.put ((ops[k]?).bind (·.dst)) (vals k) else a'

theorem framed_congr {l l' : Nat → Bool} {v v' : Nat → Value} : ∀ (k : Nat) (a : Act), (∀ i < k, l i = l' i ∧ (l i = true → v i = v' i)) → framed ops l v k a = framed ops l' v' k a
  | 0, _, _ => rfl
  | k + 1, a, h => by
    have hk := h k (by omega)
    simp only [framed]
    rw [framed_congr k a (fun i hi => h i (by omega))]
    rw [← hk.1]
    by_cases hl : l k = true
    · rw [if_pos hl, if_pos hl, hk.2 hl]
    · rw [if_neg hl, if_neg hl]

theorem put_size (a : Act) (d : Option Tmp) (v : Value) : (a.put d v).tmps.size = a.tmps.size := by cases d <;> simp [Act.put]
theorem put_defers (a : Act) (d : Option Tmp) (v : Value) : (a.put d v).defers = a.defers := by cases d <;> rfl
theorem framed_size (l v) : ∀ (k : Nat) (a : Act), (framed ops l v k a).tmps.size = a.tmps.size
  | 0, _ => rfl
  | k + 1, a => by
    simp only [framed]
    split
    · rw [put_size, framed_size l v k a]
    · exact framed_size l v k a
theorem framed_defers (l v) : ∀ (k : Nat) (a : Act), (framed ops l v k a).defers = a.defers
  | 0, _ => rfl
  | k + 1, a => by
    simp only [framed]
    split
    · rw [put_defers, framed_defers l v k a]
    · exact framed_defers l v k a

theorem getD_put_other (a : Act) (d : Option Tmp) (v : Value) (t : Nat) (h : d ≠ some t) : (a.put d v).tmps.getD t undef = a.tmps.getD t undef := by
  cases d with
  | none => rfl
  | some d =>
    have hne : d ≠ t := fun e => h (by rw [e])
    simp only [Act.put, Array.getD_eq_getD_getElem?, Array.getElem?_setIfInBounds_ne hne]
theorem getD_put_same (a : Act) (v : Value) (t : Nat) (h : t < a.tmps.size) : (a.put (some t) v).tmps.getD t undef = v := by
  simp [Act.put, h]

/-- a slot that no listed operation writes -/
theorem framed_other (l v) (t : Nat) : ∀ (k : Nat) (a : Act), (∀ j < k, l j = true → (ops[j]?).bind (·.dst) ≠ some t) → (framed ops l v k a).tmps.getD t undef = a.tmps.getD t undef
  | 0, _, _ => rfl
  | k + 1, a, h => by
    simp only [framed]
    split
    · rename_i hl
      rw [getD_put_other _ _ _ _ (h k (by omega) hl)]
      exact framed_other l v t k a (fun j hj => h j (by omega))
    · exact framed_other l v t k a (fun j hj => h j (by omega))
/-- a slot that operation i writes -/
theorem framed_same (l v) (t i : Nat) : ∀ (k : Nat) (a : Act), i < k → l i = true → (ops[i]?).bind (·.dst) = some t → t < a.tmps.size →
    (∀ j < k, j ≠ i → (ops[j]?).bind (·.dst) ≠ some t) → (framed ops l v k a).tmps.getD t undef = v i
  | 0, _, hi, _, _, _, _ => by omega
  | k + 1, a, hi, hl, hd, ht, h => by
    simp only [framed]
    by_cases e : i = k
    · subst e
      rw [if_pos hl, hd]
      exact getD_put_same _ _ _ (by rw [framed_size]; exact ht)
    · split
      · rw [getD_put_other _ _ _ _ (h k (by omega) (fun e' => e e'.symm))]
        exact framed_same l v t i k a (by omega) hl hd ht (fun j hj => h j (by omega))
      · exact framed_same l v t i k a (by omega) hl hd ht (fun j hj => h j (by omega))
/-- one operation more -/
theorem framed_put {l : Nat → Bool} {v : Nat → Value} (i : Nat) (u : Value) : ∀ (k : Nat) (a : Act), i < k → l i = false →
    (∀ j < k, j ≠ i → ∀ d, (ops[i]?).bind (·.dst) = some d → (ops[j]?).bind (·.dst) ≠ some d) →
    framed ops (fun j => if j = i then true else l j) (fun j => if j = i then u else v j) k a = (framed ops l v k a).put ((ops[i]?).bind (·.dst)) u
  | 0, _, hi, _, _ => by omega
  | k + 1, a, hi, hl, h => by
    simp only [framed]
    by_cases e : i = k
    · subst e
      simp only [if_true, hl, Bool.false_eq_true, if_false]
      rw [framed_congr i a (l' := l) (v' := v) (fun j hj => by rw [if_neg (by omega), if_neg (by omega)]; exact ⟨rfl, fun _ => rfl⟩)]
    · have ih := framed_put (l := l) (v := v) i u k a (by omega) hl (fun j hj => h j (by omega))
      rw [ih]
      simp only [if_neg (show k ≠ i from fun e' => e e'.symm)]
      split
      · rw [Act.put_comm]
        intro d hd hk
        exact h k (by omega) (fun e' => e e'.symm) d hd hk
      · rfl

theorem wp_mono2 {o : Oper} {a : Act} {w : World} {K K' : Act → World → Prop} {Q : Exit → Act → World → Prop} (h : ∀ a w, K a w → K' a w)
    (hh : o.wp P a w K (fun _ _ _ => False)) : o.wp P a w K' Q := by
  unfold Oper.wp at *
  generalize (execOp a.eval o).run P w = r at *
  cases r with
  | ok n w' =>
    cases n <;> simp only [Oper.upon] at hh ⊢ <;>
    first
    | exact h _ _ hh
    | exact Calls.mono hh (fun e w'' he => by
        cases e with
        | returned v => exact h _ _ he
        | panicked c => exact he.elim
        | outgrown => obtain ⟨_, _, hf⟩ := he; exact hf.elim)
    | exact Rows.mono hh (fun _ _ he => h _ _ he)
  | halt x w' => cases x <;> simp only [Oper.upon] at hh ⊢

def Ecum (E : Nat → Pred) : List (Option Tmp × Pred) → (Nat → Pred)
  | [] => E
  | (d, R) :: L => Ecum (upd E d R) L

theorem Ecum_other (t : Nat) : ∀ (L : List (Option Tmp × Pred)) (E : Nat → Pred), (∀ p ∈ L, p.1 ≠ some t) → Ecum E L t = E t
  | [], _, _ => rfl
  | (d, R) :: L, E, h => by
    rw [Ecum, Ecum_other t L _ (fun p hp => h p (by simp [hp]))]
    have := h (d, R) (by simp)
    cases d with
    | none => rfl
    | some d => simp only [upd]; rw [if_neg (fun e => this (by rw [e]))]
theorem Ecum_same (t : Nat) (p : Option Tmp × Pred) : ∀ (L : List (Option Tmp × Pred)) (E : Nat → Pred) (j : Nat), L[j]? = some p → p.1 = some t →
    (∀ j' p', j' ≠ j → L[j']? = some p' → p'.1 ≠ some t) → Ecum E L t = p.2
  | [], _, j, hj, _, _ => by simp at hj
  | (d, R) :: L, E, j, hj, hp, h => by
    rw [Ecum]
    cases j with
    | zero =>
      simp at hj
      subst hj
      rw [Ecum_other t L _ (fun p' hp' => by
        obtain ⟨j', hj'⟩ := List.mem_iff_getElem?.1 hp'
        exact h (j' + 1) p' (by omega) (by simpa using hj'))]
      simp only at hp
      subst hp
      simp [upd]
    | succ j =>
      exact Ecum_same t p L _ j (by simpa using hj) hp (fun j' p' hne hj' => h (j' + 1) p' (by omega) (by simpa using hj'))

theorem RW_list : ∀ (l : List Oper) (E : Nat → Pred) (K : List (Option Tmp × Pred) → Prop), RW P ops X w0 l E K →
    ∃ L : List (Option Tmp × Pred), L.length = l.length ∧ K L ∧ ∀ i o p, l[i]? = some o → L[i]? = some p → p.1 = o.dst ∧ (∀ v w w', X w w' → p.2 v w → p.2 v w') ∧ Ob P ops X w0 o (Ecum E (L.take i)) p.2
  | [], E, K, h => ⟨[], rfl, h, fun i o p hi => by simp at hi⟩
  | o :: l, E, K, h => by
    obtain ⟨R, hm, hob, hr⟩ := h
    obtain ⟨L, hl, hK, hL⟩ := RW_list l _ _ hr
    refine ⟨(o.dst, R) :: L, by simp [hl], hK, fun i o' p hi hp => ?_⟩
    cases i with
    | zero =>
      simp at hi hp
      subst hi; subst hp
      exact ⟨rfl, hm, by simpa [Ecum] using hob⟩
    | succ i =>
      obtain ⟨h1, h2, h3⟩ := hL i o' p (by simpa using hi) (by simpa using hp)
      exact ⟨h1, h2, by simpa [Ecum] using h3⟩

def cnt (l : Nat → Bool) : Nat → Nat
  | 0 => 0
  | k + 1 => (if l k then 0 else 1) + cnt l k
theorem cnt_congr {l l' : Nat → Bool} : ∀ k, (∀ i < k, l i = l' i) → cnt l k = cnt l' k
  | 0, _ => rfl
  | k + 1, h => by simp only [cnt]; rw [h k (by omega), cnt_congr k (fun i hi => h i (by omega))]
theorem cnt_set (l : Nat → Bool) (i : Nat) : ∀ k, i < k → l i = false → cnt (fun j => if j = i then true else l j) k + 1 = cnt l k
  | 0, h, _ => by omega
  | k + 1, h, hl => by
    simp only [cnt]
    by_cases e : i = k
    · subst e
      rw [cnt_congr i (l := fun j => if j = i then true else l j) (l' := l) (fun j hj => by rw [if_neg (by omega)])]
      simp [hl]; omega
    · have := cnt_set l i k (by omega) hl
      simp only [if_neg (show k ≠ i from fun e' => e e'.symm)]
      omega
theorem cnt_true : ∀ k, cnt (fun _ => true) k = 0
  | 0 => rfl
  | k + 1 => by simp [cnt, cnt_true k]
theorem cnt_zero (l : Nat → Bool) : ∀ k, cnt l k = 0 → ∀ i < k, l i = true
  | 0, _, i, hi => by omega
  | k + 1, h, i, hi => by
    simp only [cnt] at h
    have hk : l k = true := by
      cases hk : l k
      · simp [hk] at h
      · rfl
    simp only [hk, if_true, Nat.zero_add] at h
    by_cases e : i = k
    · rw [e]; exact hk
    · exact cnt_zero l k h i (by omega)

theorem mem_ready {listed : Array Bool} {i : Nat} : i ∈ Region.ready .any ops listed ↔ ∃ o, ops[i]? = some o ∧ listed.getD i true = false ∧ okEdges o (fun j => listed.getD j false) = true := by
  simp only [Region.ready, List.mem_filter, List.mem_range, Bool.and_eq_true, Bool.not_eq_true']
  constructor
  · rintro ⟨hi, h1, h2⟩
    refine ⟨ops[i], Array.getElem?_eq_getElem hi, h1, ?_⟩
    simpa [Array.getElem?_eq_getElem hi, okEdges] using h2
  · rintro ⟨o, ho, h1, h2⟩
    exact ⟨(Array.getElem?_eq_some_iff.1 ho).1, h1, by simpa [ho, okEdges] using h2⟩

theorem getD_set (listed : Array Bool) (i : Nat) (d : Bool) (j : Nat) (hi : i < listed.size) : (listed.setIfInBounds i true).getD j d = if j = i then true else listed.getD j d := by
  simp only [Array.getD_eq_getD_getElem?, Array.getElem?_setIfInBounds]
  by_cases h : i = j
  · subst h; simp [hi]
  · rw [if_neg h, if_neg (fun e : j = i => h e.symm)]

/-- the tail: one order alone -/
theorem any_tail {Q : Exit → Act → World → Prop} (k n : Nat) (hn : ops.size = n) (hok : ∀ i o, k ≤ i → ops[i]? = some o → (∀ j, k ≤ j → j < i → hasEdge o j = true) ∧ okEdges o (fun j => decide (j < i)) = true) :
    ∀ (f m : Nat) (listed : Array Bool) (a : Act) (w : World), k ≤ m → m ≤ n → n - m ≤ f → listed.size = n → (∀ i < n, ∀ d, listed.getD i d = decide (i < m)) →
      wpList P ops Q (ops.toList.drop m) a w → wpAny P .any ops Q f listed a w := by
  intro f
  induction f with
  | zero =>
    intro m listed a w hkm hmn hf hs hl hw
    have : m = n := by omega
    subst this
    refine ⟨List.eq_nil_iff_forall_not_mem.2 fun i hi => ?_, ?_⟩
    · obtain ⟨o, ho, h1, _⟩ := mem_ready.1 hi
      have := (Array.getElem?_eq_some_iff.1 ho).1
      rw [hl i (by omega)] at h1
      simp at h1; omega
    · rw [List.drop_of_length_le (by simp [hn])] at hw
      exact hw
  | succ f ih =>
    intro m listed a w hkm hmn hf hs hl hw
    rcases Nat.lt_or_ge m n with hlt | hge
    · have hm : m < ops.size := by omega
      have hom : ops[m]? = some ops[m] := Array.getElem?_eq_getElem hm
      have honly : ∀ i ∈ Region.ready .any ops listed, i = m := by
        intro i hi
        obtain ⟨o, ho, h1, h2⟩ := mem_ready.1 hi
        have hin := (Array.getElem?_eq_some_iff.1 ho).1
        rw [hl i (by omega)] at h1
        simp at h1
        by_cases e : i = m
        · exact e
        · have hedge := (hok i o (by omega) ho).1 m (by omega) (by omega)
          unfold hasEdge at hedge
          unfold okEdges at h2
          obtain ⟨x, hx, hb⟩ := Array.any_eq_true'.1 hedge
          have := Array.all_eq_true'.1 h2 x hx
          simp only [Bool.and_eq_true, beq_iff_eq] at hb
          rw [hb.1, hb.2] at this
          simp only [Bool.not_true, Bool.false_or] at this
          rw [hl m hlt] at this
          simp at this
      refine ⟨fun h0 => ?_, fun i hi => ?_⟩
      · have : m ∈ Region.ready .any ops listed := mem_ready.2 ⟨_, hom, by rw [hl m hlt]; simp, by
          have h2 := (hok m _ hkm hom).2
          unfold okEdges at h2 ⊢
          rw [Array.all_eq_true'] at h2 ⊢
          intro x hx
          have := h2 x hx
          simp only [Bool.or_eq_true, Bool.not_eq_true'] at this ⊢
          rcases this with h3 | h3
          · exact .inl h3
          · right
            have hx' : x.on < m := by simpa using h3
            rw [hl x.on (by omega)]; exact h3⟩
        rw [h0] at this; cases this
      · have e := honly i hi
        subst e
        unfold wpOp
        rw [hom]
        rw [List.drop_eq_getElem_cons (by simpa using hm)] at hw
        simp only [wpList, Array.getElem_toList] at hw
        show if Region.wanted ops[i] (yielded ops a.tmps) = true then _ else _
        have hnext : ∀ a' w', wpList P ops Q (ops.toList.drop (i + 1)) a' w' → wpAny P .any ops Q f (listed.setIfInBounds i true) a' w' := fun a' w' hh =>
          ih (i + 1) _ a' w' (by omega) (by omega) (by omega) (by simpa using hs) (fun j hj d => by
            rw [getD_set _ _ _ _ (by omega), hl j hj]
            by_cases e : j = i
            · subst e; simp
            · rw [if_neg e]; by_cases h : j < i <;> simp [h] <;> omega) hh
        split at hw
        · rename_i hwant
          rw [if_pos hwant]
          rcases hw with hw | hw
          · exact .inl (Oper.wp_mono hnext hw)
          · exact .inr hw
        · rename_i hwant
          rw [if_neg hwant]
          exact hnext _ _ hw
    · have : m = n := by omega
      subst this
      have hnil : Region.ready .any ops listed = [] := List.eq_nil_iff_forall_not_mem.2 fun i hi => by
        obtain ⟨o, ho, h1, _⟩ := mem_ready.1 hi
        have := (Array.getElem?_eq_some_iff.1 ho).1
        rw [hl i (by omega)] at h1
        simp at h1; omega
      refine ⟨fun _ => ?_, fun i hi => by rw [hnil] at hi; cases hi⟩
      rw [List.drop_of_length_le (by simp [hn])] at hw
      exact hw

/-- facts that okRegion decides -/
structure OkR (ops : Array Oper) (k n : Nat) : Prop where
  edges : ∀ i o, ops[i]? = some o → okEdges o (fun j => decide (j < i)) = true
  room : ∀ i o d, i < k → ops[i]? = some o → o.dst = some d → d < n
  apart : ∀ i j o oj d, i < k → j < k → i ≠ j → ops[i]? = some o → ops[j]? = some oj → o.dst = some d → oj.dst ≠ some d
  look : ∀ i j o oj t, i < k → j < k → ops[i]? = some o → ops[j]? = some oj → t ∈ o.looksAt ops → oj.dst = some t → (j < i ∧ hasEdge o j = true) ∨ (i < j ∧ hasEdge oj i = true)
  tail : ∀ i o, k ≤ i → ops[i]? = some o → ∀ j, k ≤ j → j < i → hasEdge o j = true

theorem OkR.of {k n : Nat} {dl : Option Nat} (h : okRegion ops k n dl = true) (hk : k ≤ ops.size) : OkR ops k n := by
  unfold okRegion at h
  rw [List.all_eq_true] at h
  have H : ∀ i o, ops[i]? = some o → _ := fun i o ho => by
    have hi := (Array.getElem?_eq_some_iff.1 ho).1
    have := h i (List.mem_range.2 hi)
    rw [ho] at this
    simp only [Bool.and_eq_true] at this
    exact this
  have G : ∀ i o, i < k → ops[i]? = some o → _ := fun i o hi ho => by
    have := (H i o ho).2
    rw [if_pos hi] at this
    simp only [Bool.and_eq_true, List.all_eq_true, List.mem_range] at this
    exact this
  refine ⟨fun i o ho => (H i o ho).1, fun i o d hi ho hd => ?_, fun i j o oj d hi hj hne ho hoj hd hd' => ?_, fun i j o oj t hi hj ho hoj ht hd => ?_, fun i o hi ho j hkj hj => ?_⟩
  · have := (G i o hi ho).1
    rw [hd] at this
    simpa using this
  · have := (G i o hi ho).2 j hj
    rw [hoj] at this
    simp only [hd, hd', Bool.and_eq_true, Bool.or_eq_true, beq_iff_eq, bne_self_eq_false, Bool.false_eq_true, or_false] at this
    exact hne this.1
  · have := (G i o hi ho).2 j hj
    rw [hoj] at this
    simp only [Bool.and_eq_true, List.all_eq_true] at this
    have h2 := this.2 t ht
    rw [hd] at h2
    simpa [Bool.or_eq_true] using h2
  · have := (H i o ho).2
    rw [if_neg (by omega)] at this
    rw [List.all_eq_true] at this
    have h3 := this j (List.mem_range.2 hj)
    simp only [Bool.or_eq_true, Bool.and_eq_true, decide_eq_true_eq] at h3
    rcases h3 with (h3 | h3) | h3
    · exact h3
    · omega
    · omega
theorem okR_tail {k n : Nat} {dl : Option Nat} (h : okRegion ops k n dl = true) : ∀ i o, k ≤ i → ops[i]? = some o → ∀ j < i, (i = k → dl ≠ some j) → hasEdge o j = true ∨ (dl = none ∧ inC ops i ops.size j = true) := by
  unfold okRegion at h
  rw [List.all_eq_true] at h
  intro i o hi ho j hj hd
  have h1 := h i (List.mem_range.2 (Array.getElem?_eq_some_iff.1 ho).1)
  rw [ho] at h1
  simp only [Bool.and_eq_true] at h1
  have h2 := h1.2
  rw [if_neg (by omega), List.all_eq_true] at h2
  have h3 := h2 j (List.mem_range.2 hj)
  simp only [Bool.or_eq_true, Bool.and_eq_true, beq_iff_eq] at h3
  rcases h3 with (h3 | ⟨⟨h4, h5⟩, _⟩) | ⟨_, h6, h7⟩
  · exact .inl h3
  · exact absurd h5 (hd h4)
  · exact .inr ⟨(by cases dl with | none => rfl | some _ => exact Bool.noConfusion h6), h7⟩
/-- what is listed holds all that is ahead of it -/
theorem inC_ok {listed : Array Bool} (hcl : ∀ j o, ops[j]? = some o → listed.getD j true = true → okEdges o (fun e => listed.getD e false) = true) (hs : listed.size = ops.size) {i : Nat} {o : Oper} (ho : ops[i]? = some o)
    (h2 : okEdges o (fun e => listed.getD e false) = true) : ∀ (f j : Nat), inC ops i f j = true → listed.getD j false = true := by
  have has : ∀ (o : Oper) (j : Nat), okEdges o (fun e => listed.getD e false) = true → hasEdge o j = true → listed.getD j false = true := by
    intro o j hg he
    unfold okEdges at hg
    unfold hasEdge at he
    obtain ⟨x, hx, hb⟩ := Array.any_eq_true'.1 he
    have := Array.all_eq_true'.1 hg x hx
    simp only [Bool.and_eq_true, beq_iff_eq] at hb
    rw [hb.1, hb.2] at this
    simpa using this
  have h0 : ∀ j, hasE ops i j = true → listed.getD j false = true := fun j hj => by
    unfold hasE at hj; rw [ho] at hj; exact has o j h2 hj
  intro f
  induction f with
  | zero => intro j hj; exact h0 j hj
  | succ f ih =>
    intro j hj
    simp only [inC, Bool.or_eq_true, List.any_eq_true, Bool.and_eq_true] at hj
    rcases hj with hj | ⟨m, hm, _, h3, h4⟩
    · exact h0 j hj
    · have h5 := ih m h4
      unfold hasE at h3
      split at h3
      · rename_i om hom
        have hms : m < listed.size := by rw [hs]; exact (Array.getElem?_eq_some_iff.1 hom).1
        refine has om j (hcl m om hom ?_) h3
        simp only [Array.getD_eq_getD_getElem?, Array.getElem?_eq_getElem hms, Option.getD_some] at h5 ⊢
        exact h5
      · cases h3

def E0 (a : Act) : Nat → Pred := fun t v _ => v = a.tmps.getD t undef

set_option maxHeartbeats 2000000 in
theorem any_rel {Q : Exit → Act → World → Prop} {k n : Nat} (a0 : Act) (hok : OkR ops k n) (hk : k ≤ ops.size) (hn : a0.tmps.size = n) (hd0 : a0.defers = [])
    (hXr : ∀ a, X a a) (hXt : ∀ a b c, X a b → X b c → X a c) (L : List (Option Tmp × Pred)) (hLl : L.length = k)
    (hL : ∀ i o p, i < k → ops[i]? = some o → L[i]? = some p → p.1 = o.dst ∧ (∀ v w w', X w w' → p.2 v w → p.2 v w') ∧ Ob P ops X w0 o (Ecum (E0 a0) (L.take i)) p.2)
    (hfin : ∀ (vals : Nat → Value) (w : World), X w0 w → (∀ (j : Nat) (p : Option Tmp × Pred), L[j]? = some p → p.2 (vals j) w) → wpList P ops Q (ops.toList.drop k) (framed ops (fun _ => true) vals k a0) w)
    (hesc : ∀ (i : Nat) (o : Oper) (listed : Array Bool) (vals : Nat → Value) (w : World) (f : Nat), k ≤ i → ops[i]? = some o → listed.size = ops.size → (∀ j, k ≤ j → j < ops.size → ∀ d, listed.getD j d = false) → okEdges o (fun e => listed.getD e false) = true → (∀ j o, ops[j]? = some o → listed.getD j true = true → okEdges o (fun e => listed.getD e false) = true) →
      (∃ i' < k, listed.getD i' true = false) → ops.size ≤ f + k + 1 → cnt (fun j => listed.getD j true) k + (ops.size - k) ≤ f + 1 → X w0 w → (∀ (j : Nat) (p : Option Tmp × Pred), j < k → listed.getD j true = true → L[j]? = some p → p.2 (vals j) w) →
      wpOp P ops Q i (wpAny P .any ops Q f (listed.setIfInBounds i true)) (framed ops (fun j => listed.getD j true) vals k a0) w) :
    ∀ (f : Nat) (listed : Array Bool) (a : Act) (w : World), listed.size = ops.size → (∀ i, k ≤ i → i < ops.size → ∀ d, listed.getD i d = false) →
      (∀ j o, ops[j]? = some o → listed.getD j true = true → okEdges o (fun e => listed.getD e false) = true) →
      cnt (fun j => listed.getD j true) k + (ops.size - k) ≤ f → X w0 w →
      (∃ vals : Nat → Value, a = framed ops (fun j => listed.getD j true) vals k a0 ∧ ∀ (j : Nat) (p : Option Tmp × Pred), j < k → listed.getD j true = true → L[j]? = some p → p.2 (vals j) w) →
      wpAny P .any ops Q f listed a w := by
  have dst_at : ∀ (i : Nat) (o : Oper), ops[i]? = some o → (ops[i]?).bind (·.dst) = o.dst := fun i o ho => by rw [ho]; rfl
  have edgeMono : ∀ (o : Oper) (f g : Nat → Bool), okEdges o f = true → (∀ j, f j = true → g j = true) → okEdges o g = true := by
    intro o f g hf hfg
    unfold okEdges at *
    rw [Array.all_eq_true'] at *
    intro x hx
    have := hf x hx
    simp only [Bool.or_eq_true, Bool.not_eq_true'] at this ⊢
    exact this.imp id (hfg _)
  have hasOk : ∀ (o : Oper) (g : Nat → Bool) (j : Nat), okEdges o g = true → hasEdge o j = true → g j = true := by
    intro o g j hg he
    unfold okEdges at hg
    unfold hasEdge at he
    obtain ⟨x, hx, hb⟩ := Array.any_eq_true'.1 he
    have := Array.all_eq_true'.1 hg x hx
    simp only [Bool.and_eq_true, beq_iff_eq] at hb
    rw [hb.1, hb.2] at this
    simpa using this
  intro f
  induction f with
  | zero =>
    intro listed a w hs hsuf hcl hcnt hX hI
    obtain ⟨vals, rfl, hv⟩ := hI
    have hall := cnt_zero (fun j => listed.getD j true) k (by omega)
    have hkn : k = ops.size := by omega
    have hw := hfin vals w hX (fun j p hp => hv j p (by rw [← hLl]; exact (List.getElem?_eq_some_iff.1 hp).1) (hall j (by rw [← hLl]; exact (List.getElem?_eq_some_iff.1 hp).1)) hp)
    rw [framed_congr k a0 (l' := fun j => listed.getD j true) (v' := vals) (fun i hi => ⟨(hall i hi).symm, fun _ => rfl⟩)] at hw
    refine any_tail k ops.size rfl (fun i o hi ho => ⟨fun j hkj hj => hok.tail i o hi ho j hkj hj, hok.edges i o ho⟩) 0 k listed _ w (Nat.le_refl _) hk (by omega) hs (fun i hi d => ?_) hw
    have := hall i (by omega)
    simp only [Array.getD_eq_getD_getElem?, Array.getElem?_eq_getElem (show i < listed.size by omega)] at this ⊢
    simp only [Option.getD_some] at this ⊢
    rw [this]; simp; omega
  | succ f ih =>
    intro listed a w hs hsuf hcl hcnt hX hI
    obtain ⟨vals, rfl, hv⟩ := hI
    by_cases hc0 : cnt (fun j => listed.getD j true) k = 0
    · have hall := cnt_zero (fun j => listed.getD j true) k hc0
      have hw := hfin vals w hX (fun j p hp => hv j p (by rw [← hLl]; exact (List.getElem?_eq_some_iff.1 hp).1) (hall j (by rw [← hLl]; exact (List.getElem?_eq_some_iff.1 hp).1)) hp)
      rw [framed_congr k a0 (l' := fun j => listed.getD j true) (v' := vals) (fun i hi => ⟨(hall i hi).symm, fun _ => rfl⟩)] at hw
      refine any_tail k ops.size rfl (fun i o hi ho => ⟨fun j hkj hj => hok.tail i o hi ho j hkj hj, hok.edges i o ho⟩) (f + 1) k listed _ w (Nat.le_refl _) hk (by omega) hs (fun i hi d => ?_) hw
      by_cases hik : i < k
      · have := hall i hik
        simp only [Array.getD_eq_getD_getElem?, Array.getElem?_eq_getElem (show i < listed.size by omega)] at this ⊢
        simp only [Option.getD_some] at this ⊢
        rw [this]; simp [hik]
      · rw [hsuf i (by omega) hi d]; simp [hik]
    · -- some operation of the first k has not come up
      have hex : ∃ i < k, listed.getD i true = false ∧ ∀ j < i, listed.getD j true = true := by
        have key : ∀ m, m ≤ k → (∃ i < m, listed.getD i true = false ∧ ∀ j < i, listed.getD j true = true) ∨ (∀ j < m, listed.getD j true = true) := by
          intro m
          induction m with
          | zero => intro _; right; intro j hj; omega
          | succ m ihm =>
            intro hm
            rcases ihm (by omega) with ⟨i, hi, h1, h2⟩ | h
            · exact .inl ⟨i, by omega, h1, h2⟩
            · cases hm' : listed.getD m true
              · exact .inl ⟨m, by omega, hm', h⟩
              · right; intro j hj
                by_cases e : j = m
                · rw [e]; exact hm'
                · exact h j (by omega)
        rcases key k (Nat.le_refl _) with h | h
        · exact h
        · exfalso
          apply hc0
          rw [cnt_congr k (l' := fun _ => true) h]
          exact cnt_true k
      refine ⟨fun h0 => ?_, fun i hi => ?_⟩
      · obtain ⟨i, hik, h1, h2⟩ := hex
        have hi : i < ops.size := by omega
        have : i ∈ Region.ready .any ops listed := mem_ready.2 ⟨_, Array.getElem?_eq_getElem hi, h1, edgeMono _ _ _ (hok.edges i _ (Array.getElem?_eq_getElem hi)) (fun j hj => by
          have hj' : j < i := by simpa using hj
          have := h2 j hj'
          simp only [Array.getD_eq_getD_getElem?, Array.getElem?_eq_getElem (show j < listed.size by omega), Option.getD_some] at this ⊢
          exact this)⟩
        rw [h0] at this; cases this
      · obtain ⟨o, ho, h1, h2⟩ := mem_ready.1 hi
        have hin := (Array.getElem?_eq_some_iff.1 ho).1
        rcases Nat.lt_or_ge i k with hik | hik
        rotate_left
        · exact hesc i o listed vals w f hik ho hs hsuf h2 hcl (by obtain ⟨i', hi'k, h1', _⟩ := hex; exact ⟨i', hi'k, h1'⟩) (by omega) hcnt hX hv
        have hLi : L[i]? = some L[i] := List.getElem?_eq_getElem (by omega)
        obtain ⟨hp1, hp2, hob⟩ := hL i o _ hik ho hLi
        have hdistinct : ∀ j < k, j ≠ i → ∀ d, (ops[i]?).bind (·.dst) = some d → (ops[j]?).bind (·.dst) ≠ some d := by
          intro j hj hne d hd
          have hoj : ops[j]? = some ops[j] := Array.getElem?_eq_getElem (by omega)
          rw [dst_at _ _ hoj]
          rw [dst_at _ _ ho] at hd
          exact hok.apart i j o _ d hik hj (fun e => hne e.symm) ho hoj hd
        have Lat : ∀ (j : Nat) (p : Option Tmp × Pred), L[j]? = some p → ∃ oj : Oper, ops[j]? = some oj ∧ p.1 = oj.dst := fun j p hp => by
          have hj : j < k := by rw [← hLl]; exact (List.getElem?_eq_some_iff.1 hp).1
          have hoj : ops[j]? = some ops[j] := Array.getElem?_eq_getElem (by omega)
          exact ⟨_, hoj, (hL j _ p hj hoj hp).1⟩
        have hlook : ∀ t ∈ o.looksAt ops, Ecum (E0 a0) (L.take i) t ((framed ops (fun j => listed.getD j true) vals k a0).tmps.getD t undef) w := by
          intro t ht
          by_cases hex : ∃ j < k, ∃ oj, ops[j]? = some oj ∧ oj.dst = some t
          · obtain ⟨j, hj, oj, hoj, hdj⟩ := hex
            have huniq : ∀ j' < k, j' ≠ j → (ops[j']?).bind (·.dst) ≠ some t := by
              intro j' hj' hne
              have hoj' : ops[j']? = some ops[j'] := Array.getElem?_eq_getElem (by omega)
              rw [dst_at _ _ hoj']
              exact hok.apart j j' oj _ t hj hj' (fun e => hne e.symm) hoj hoj' hdj
            rcases hok.look i j o oj t hik hj ho hoj ht hdj with ⟨hji, hedge⟩ | ⟨hij, hedge⟩
            · have hlj : listed.getD j true = true := by
                have := hasOk o _ j h2 hedge
                simp only [Array.getD_eq_getD_getElem?, Array.getElem?_eq_getElem (show j < listed.size by omega), Option.getD_some] at this ⊢
                exact this
              have hLj : L[j]? = some L[j] := List.getElem?_eq_getElem (by omega)
              rw [framed_same (fun j => listed.getD j true) vals t j k a0 hj hlj (by rw [dst_at _ _ hoj]; exact hdj) (by rw [hn]; exact hok.room j oj t hj hoj hdj) huniq]
              rw [Ecum_same t L[j] (L.take i) _ j (by rw [List.getElem?_take, if_pos hji]; exact hLj) (by rw [(hL j oj _ hj hoj hLj).1]; exact hdj) (fun j' p' hne hp' => by
                rw [List.getElem?_take] at hp'
                split at hp'
                · obtain ⟨oj', hoj', hp1'⟩ := Lat j' p' hp'
                  rw [hp1', ← dst_at _ _ hoj']
                  exact huniq j' (by rw [← hLl]; exact (List.getElem?_eq_some_iff.1 hp').1) hne
                · cases hp')]
              exact hv j _ hj hlj hLj
            · have hlj : listed.getD j true = false := by
                cases hlj : listed.getD j true
                · rfl
                · have := hasOk oj _ i (hcl j oj hoj hlj) hedge
                  simp only [Array.getD_eq_getD_getElem?, Array.getElem?_eq_getElem (show i < listed.size by omega), Option.getD_some] at this h1
                  rw [this] at h1; cases h1
              rw [framed_other _ _ t k a0 (fun j' hj' hl' => by
                by_cases e : j' = j
                · subst e; rw [hlj] at hl'; cases hl'
                · exact huniq j' hj' e)]
              rw [Ecum_other t _ _ (fun p' hp' => by
                obtain ⟨j', hj'⟩ := List.mem_iff_getElem?.1 hp'
                rw [List.getElem?_take] at hj'
                split at hj'
                · rename_i hlt
                  obtain ⟨oj', hoj', hp1'⟩ := Lat j' p' hj'
                  rw [hp1', ← dst_at _ _ hoj']
                  exact huniq j' (by omega) (by omega)
                · cases hj')]
              rfl
          · have hno : ∀ j < k, (ops[j]?).bind (·.dst) ≠ some t := by
              intro j hj hd
              have hoj : ops[j]? = some ops[j] := Array.getElem?_eq_getElem (by omega)
              rw [dst_at _ _ hoj] at hd
              exact hex ⟨j, hj, _, hoj, hd⟩
            rw [framed_other _ _ t k a0 (fun j' hj' _ => hno j' hj')]
            rw [Ecum_other t _ _ (fun p' hp' => by
              obtain ⟨j', hj'⟩ := List.mem_iff_getElem?.1 hp'
              rw [List.getElem?_take] at hj'
              split at hj'
              · obtain ⟨oj', hoj', hp1'⟩ := Lat j' p' hj'
                rw [hp1', ← dst_at _ _ hoj']
                exact hno j' (by omega)
              · cases hj')]
            rfl
        have hobw := hob (framed ops (fun j => listed.getD j true) vals k a0) w hX (by rw [framed_defers]; exact hd0) hlook
        have hnext : ∀ (v : Value) (w' : World), X w w' → L[i].2 v w' → wpAny P .any ops Q f (listed.setIfInBounds i true) ((framed ops (fun j => listed.getD j true) vals k a0).put o.dst v) w' := by
          intro v w' hXw hR
          have hgs : ∀ j d, (listed.setIfInBounds i true).getD j d = if j = i then true else listed.getD j d := fun j d => getD_set listed i d j (by omega)
          refine ih _ _ w' (by simpa using hs) (fun j hj hj' d => by rw [hgs, if_neg (by omega)]; exact hsuf j hj hj' d) (fun j oj hoj hl => ?_) ?_ (hXt _ _ _ hX hXw) ⟨fun j => if j = i then v else vals j, ?_, fun j p hj hl hp => ?_⟩
          · by_cases e : j = i
            · subst e
              rw [ho] at hoj
              injection hoj with hoj
              subst hoj
              exact edgeMono _ _ _ h2 (fun x hx => by rw [hgs]; split <;> simp_all)
            · rw [hgs, if_neg e] at hl
              exact edgeMono _ _ _ (hcl j oj hoj hl) (fun x hx => by rw [hgs]; split <;> simp_all)
          · have := cnt_set (fun j => listed.getD j true) i k hik h1
            rw [cnt_congr k (l' := fun j => if j = i then true else listed.getD j true) (fun j _ => hgs j true)]
            omega
          · rw [show (fun j => (listed.setIfInBounds i true).getD j true) = fun j => if j = i then true else listed.getD j true from funext fun j => hgs j true]
            rw [framed_put (l := fun j => listed.getD j true) (v := vals) i v k a0 hik h1 hdistinct, dst_at _ _ ho]
          · by_cases e : j = i
            · subst e
              rw [hLi] at hp
              injection hp with hp
              subst hp
              simpa using hR
            · rw [hgs, if_neg e] at hl
              simp only [if_neg e]
              have hoj : ops[j]? = some ops[j] := Array.getElem?_eq_getElem (by omega)
              exact (hL j _ p hj hoj hp).2.1 _ _ _ hXw (hv j p hj hl hp)
        unfold wpOp
        rw [ho]
        show if Region.wanted o (yielded ops _) = true then _ else _
        split at hobw
        · rename_i hwant
          rw [if_pos hwant]
          exact .inl (wp_mono2 (fun a' w' ⟨v, ha, hXw, hR⟩ => by rw [ha]; exact hnext v w' hXw hR) hobw)
        · rename_i hwant
          rw [if_neg hwant]
          exact hnext undef w (hXr w) hobw

theorem Fin_eq {Q' : Act → World → Prop} {d : Option Tmp} {c : Value} {L : List (Option Tmp × Pred)} {a : Act} {w : World} (h : Fin Q' L (a.put d c) w) : Fin Q' ((d, fun v _ => v = c) :: L) a w :=
  fun v hv => by cases hv; exact h
theorem Fin_framed {Q' : Act → World → Prop} {vals : Nat → Value} {w : World} (L : List (Option Tmp × Pred)) (a : Act) (hd : ∀ (i : Nat) (p : Option Tmp × Pred), L[i]? = some p → p.1 = (ops[i]?).bind (·.dst))
    (hv : ∀ (j : Nat) (p : Option Tmp × Pred), L[j]? = some p → p.2 (vals j) w) (h : Fin Q' L a w) :
    ∀ m, m ≤ L.length → Fin Q' (L.drop m) (framed ops (fun _ => true) vals m a) w
  | 0, _ => by simpa [framed] using h
  | m + 1, hm => by
    have ih := Fin_framed L a hd hv h m (by omega)
    have hLm : L[m]? = some L[m] := List.getElem?_eq_getElem (by omega)
    rw [List.drop_eq_getElem_cons (by omega)] at ih
    have := ih (vals m) (hv m _ hLm)
    simp only [framed, if_true]
    rw [← hd m _ hLm]
    exact this

theorem esc_none {Q : Exit → Act → World → Prop} {k n : Nat} {a0 : Act} {L : List (Option Tmp × Pred)} (hok : okRegion ops k n = true) (hk : k ≤ ops.size) :
    ∀ (i : Nat) (o : Oper) (listed : Array Bool) (vals : Nat → Value) (w : World) (f : Nat), k ≤ i → ops[i]? = some o → listed.size = ops.size → (∀ j, k ≤ j → j < ops.size → ∀ d, listed.getD j d = false) → okEdges o (fun e => listed.getD e false) = true → (∀ j o, ops[j]? = some o → listed.getD j true = true → okEdges o (fun e => listed.getD e false) = true) →
      (∃ i' < k, listed.getD i' true = false) → ops.size ≤ f + k + 1 → cnt (fun j => listed.getD j true) k + (ops.size - k) ≤ f + 1 → X w0 w → (∀ (j : Nat) (p : Option Tmp × Pred), j < k → listed.getD j true = true → L[j]? = some p → p.2 (vals j) w) →
      wpOp P ops Q i (wpAny P .any ops Q f (listed.setIfInBounds i true)) (framed ops (fun j => listed.getD j true) vals k a0) w := by
  intro i o listed vals w f hki ho hs _ h2 hcl ⟨i', hi', h1'⟩ _ _ _ _
  exfalso
  have hin := (Array.getElem?_eq_some_iff.1 ho).1
  have hedge := okR_tail hok i o hki ho i' (by omega) (fun _ h => by cases h)
  rcases hedge with hedge | ⟨_, hedge⟩
  rotate_left
  · have := inC_ok hcl hs ho h2 _ _ hedge
    simp only [Array.getD_eq_getD_getElem?, Array.getElem?_eq_getElem (show i' < listed.size by omega), Option.getD_some] at this h1'
    rw [this] at h1'; cases h1'
  unfold okEdges at h2
  unfold hasEdge at hedge
  obtain ⟨x, hx, hb⟩ := Array.any_eq_true'.1 hedge
  have := Array.all_eq_true'.1 h2 x hx
  simp only [Bool.and_eq_true, beq_iff_eq] at hb
  rw [hb.1, hb.2] at this
  simp only [Bool.not_true, Bool.false_or] at this
  simp only [Array.getD_eq_getD_getElem?, Array.getElem?_eq_getElem (show i' < listed.size by omega), Option.getD_some] at this h1'
  rw [this] at h1'; cases h1'
/-- A REGION THAT DRAWS ITS ORDER: its first k operations by what is known of each one's value, the others in the text's order -/
theorem wp_region_rel {Q : Exit → Act → World → Prop} {id : Nat} {a0 : Act} {w : World} (k n : Nat) (X : World → World → Prop) (hm : P.follows .mixedOrders = true)
    (hok : okRegion ops k n = true) (hk : decide (k ≤ ops.size) = true) (hn : a0.tmps.size = n) (hd0 : a0.defers = []) (hXr : ∀ a, X a a) (hXt : ∀ a b c, X a b → X b c → X a c)
    (h : RW P ops X w.drew (ops.toList.take k) (E0 a0) (fun L => ∀ w', X w.drew w' → Fin (fun a w => wpList P ops Q (ops.toList.drop k) a w) L a0 w')) :
    (Code.region id ops true).wp P Q a0 w := by
  have hk' : k ≤ ops.size := by simpa using hk
  have hok' := OkR.of hok hk'
  obtain ⟨L, hLl, hK, hL⟩ := RW_list _ _ _ h
  have hLk : L.length = k := by rw [hLl]; simp [hk']
  have hL' : ∀ (i : Nat) (o : Oper) (p : Option Tmp × Pred), i < k → ops[i]? = some o → L[i]? = some p → p.1 = o.dst ∧ (∀ v w w', X w w' → p.2 v w → p.2 v w') ∧ Ob P ops X w.drew o (Ecum (E0 a0) (L.take i)) p.2 :=
    fun i o p hi ho hp => hL i o p (by rw [List.getElem?_take, if_pos hi]; simpa using ho) hp
  refine wp_region_any hm ?_
  refine any_rel (k := k) (n := n) (X := X) (w0 := w.drew) a0 hok' hk' hn hd0 hXr hXt L hLk hL' (fun vals w' hX hv => ?_) ?_ ops.size _ a0 _ (by simp) (fun i hi hi' d => by simp [hi']) (fun j o ho hl => ?_) ?_ (hXr _) ⟨fun _ => undef, ?_, fun j p hj hl => ?_⟩
  rotate_left
  · exact esc_none hok hk'
  rotate_right
  · have := Fin_framed (ops := ops) L a0 (fun i p hp => by
      have hi : i < k := by rw [← hLk]; exact (List.getElem?_eq_some_iff.1 hp).1
      have ho : ops[i]? = some ops[i] := Array.getElem?_eq_getElem (by omega)
      rw [(hL' i _ p hi ho hp).1, ho]; rfl) hv (hK w' hX) k (by omega)
    rw [show L.drop k = [] from List.drop_of_length_le (by omega)] at this
    exact this
  · have := (Array.getElem?_eq_some_iff.1 ho).1
    simp [this] at hl
  · have : ∀ m, m ≤ ops.size → cnt (fun j => (Array.replicate ops.size false).getD j true) m = m := by
      intro m
      induction m with
      | zero => intro _; rfl
      | succ m ih => intro hm; simp only [cnt]; rw [ih (by omega)]; simp [show m < ops.size by omega]; omega
    rw [this k hk']; omega
  · have : ∀ m, m ≤ ops.size → framed ops (fun j => (Array.replicate ops.size false).getD j true) (fun _ => undef) m a0 = a0 := by
      intro m
      induction m with
      | zero => intro _; rfl
      | succ m ih => intro hm; simp only [framed]; rw [ih (by omega)]; simp [show m < ops.size by omega]
    exact (this k hk').symm
  · simp [show j < ops.size by omega] at hl

/-! ### one operation of the first k may come up late: behind the first of the others -/
def forcedB (ops : Array Oper) : Array Bool → List Nat → Bool
  | listed, [] => (Region.ready .any ops listed).isEmpty
  | listed, i :: is => (Region.ready .any ops listed == [i]) && forcedB ops (listed.setIfInBounds i true) is

theorem wpAny_forced {Q : Exit → Act → World → Prop} : ∀ (is : List Nat) (listed : Array Bool) (f : Nat) (a : Act) (w : World), forcedB ops listed is = true → is.length ≤ f →
    wpList P ops Q (is.filterMap (ops[·]?)) a w → wpAny P .any ops Q f listed a w
  | [], listed, f, a, w, hf, _, hw => by
    have h0 : Region.ready .any ops listed = [] := by simpa [forcedB] using hf
    cases f with
    | zero => exact ⟨h0, hw⟩
    | succ f => exact ⟨fun _ => hw, fun i hi => by rw [h0] at hi; cases hi⟩
  | i :: is, listed, f, a, w, hf, hl, hw => by
    simp only [forcedB, Bool.and_eq_true, beq_iff_eq] at hf
    obtain ⟨h0, h1⟩ := hf
    cases f with
    | zero => simp at hl
    | succ f =>
      refine ⟨fun h => absurd (h0.symm.trans h) (by simp), fun j hj => ?_⟩
      obtain ⟨o, ho, _, _⟩ := mem_ready.1 hj
      rw [h0] at hj
      obtain rfl : j = i := by simpa using hj
      unfold wpOp
      rw [ho]
      show if Region.wanted o (yielded ops a.tmps) = true then _ else _
      simp only [List.filterMap_cons, ho, wpList] at hw
      have ih := fun a' w' hh => wpAny_forced (Q := Q) is (listed.setIfInBounds j true) f a' w' h1 (by simpa using hl) hh
      split at hw
      · rename_i hwant
        rw [if_pos hwant]
        rcases hw with hw | hw
        · exact .inl (Oper.wp_mono ih hw)
        · exact .inr hw
      · rename_i hwant
        rw [if_neg hwant]
        exact ih _ _ hw

def FinM (Q : Act → World → Prop) (m : Nat → Bool) : Nat → List (Option Tmp × Pred) → Act → World → Prop
  | _, [], a, w => Q a w
  | i, (d, R) :: rest, a, w => if m i = true then ∀ v, R v w → FinM Q m (i + 1) rest (a.put d v) w else FinM Q m (i + 1) rest a w
theorem FinM_framed {Q' : Act → World → Prop} {vals : Nat → Value} {w : World} {mk : Nat → Bool} (L : List (Option Tmp × Pred)) (a : Act) (hd : ∀ (i : Nat) (p : Option Tmp × Pred), L[i]? = some p → p.1 = (ops[i]?).bind (·.dst))
    (hv : ∀ (j : Nat) (p : Option Tmp × Pred), mk j = true → L[j]? = some p → p.2 (vals j) w) (h : FinM Q' mk 0 L a w) :
    ∀ m, m ≤ L.length → FinM Q' mk m (L.drop m) (framed ops mk vals m a) w
  | 0, _ => by simpa [framed] using h
  | m + 1, hm => by
    have ih := FinM_framed L a hd hv h m (by omega)
    have hLm : L[m]? = some L[m] := List.getElem?_eq_getElem (by omega)
    rw [List.drop_eq_getElem_cons (by omega)] at ih
    simp only [FinM] at ih
    simp only [framed]
    by_cases hmk : mk m = true
    · rw [if_pos hmk] at ih
      rw [if_pos hmk]
      have := ih (vals m) (hv m _ hmk hLm)
      rw [← hd m _ hLm]
      exact this
    · rw [if_neg hmk] at ih
      rw [if_neg hmk]
      exact ih
theorem FinM_eq {Q' : Act → World → Prop} {m : Nat → Bool} {i : Nat} {d : Option Tmp} {c : Value} {L : List (Option Tmp × Pred)} {a : Act} {w : World} (hm : m i = true) (h : FinM Q' m (i + 1) L (a.put d c) w) : FinM Q' m i ((d, fun v _ => v = c) :: L) a w := by
  unfold FinM
  rw [if_pos hm]
  intro v hv
  cases hv; exact h
theorem FinM_pred {Q' : Act → World → Prop} {m : Nat → Bool} {i : Nat} {d : Option Tmp} {R : Pred} {L : List (Option Tmp × Pred)} {a : Act} {w : World} (hm : m i = true) (h : ∀ v, R v w → FinM Q' m (i + 1) L (a.put d v) w) : FinM Q' m i ((d, R) :: L) a w := by
  unfold FinM
  rw [if_pos hm]
  exact h
theorem FinM_skip {Q' : Act → World → Prop} {m : Nat → Bool} {i : Nat} {d : Option Tmp} {R : Pred} {L : List (Option Tmp × Pred)} {a : Act} {w : World} (hm : m i = false) (h : FinM Q' m (i + 1) L a w) : FinM Q' m i ((d, R) :: L) a w := by
  unfold FinM
  rw [if_neg (by rw [hm]; simp)]
  exact h

def lateMask (k d n : Nat) : Array Bool := (Array.range n).map fun j => decide (j < k) && j != d

theorem wp_region_rel_d {Q : Exit → Act → World → Prop} {id : Nat} {a0 : Act} {w : World} (k n d : Nat) (X : World → World → Prop) (hm : P.follows .mixedOrders = true)
    (hok : okRegion ops k n (some d) = true) (hk : decide (k < ops.size ∧ d < k) = true) (hfo : forcedB ops ((lateMask k d ops.size).setIfInBounds k true) (d :: (List.range ops.size).drop (k + 1)) = true)
    (hn : a0.tmps.size = n) (hd0 : a0.defers = []) (hXr : ∀ a, X a a) (hXt : ∀ a b c, X a b → X b c → X a c) {ls : List Oper} (hls : (k :: d :: (List.range ops.size).drop (k + 1)).filterMap (ops[·]?) = ls)
    (h : RW P ops X w.drew (ops.toList.take k) (E0 a0) (fun L => (∀ w', X w.drew w' → Fin (fun a w => wpList P ops Q (ops.toList.drop k) a w) L a0 w') ∧
      (∀ w', X w.drew w' → FinM (fun a w => wpList P ops Q ls a w) (fun j => j != d) 0 L a0 w'))) :
    (Code.region id ops true).wp P Q a0 w := by
  obtain ⟨hk1, hdk⟩ : k < ops.size ∧ d < k := by simpa using hk
  have hk' : k ≤ ops.size := Nat.le_of_lt hk1
  have hok' := OkR.of hok hk'
  obtain ⟨L, hLl, ⟨hK, hK2⟩, hL⟩ := RW_list _ _ _ h
  have hLk : L.length = k := by rw [hLl]; simp [hk']
  have hL' : ∀ (i : Nat) (o : Oper) (p : Option Tmp × Pred), i < k → ops[i]? = some o → L[i]? = some p → p.1 = o.dst ∧ (∀ v w w', X w w' → p.2 v w → p.2 v w') ∧ Ob P ops X w.drew o (Ecum (E0 a0) (L.take i)) p.2 :=
    fun i o p hi ho hp => hL i o p (by rw [List.getElem?_take, if_pos hi]; simpa using ho) hp
  have hdst : ∀ (i : Nat) (p : Option Tmp × Pred), L[i]? = some p → p.1 = (ops[i]?).bind (·.dst) := fun i p hp => by
    have hi : i < k := by rw [← hLk]; exact (List.getElem?_eq_some_iff.1 hp).1
    have ho : ops[i]? = some ops[i] := Array.getElem?_eq_getElem (by omega)
    rw [(hL' i _ p hi ho hp).1, ho]; rfl
  refine wp_region_any hm ?_
  refine any_rel (k := k) (n := n) (X := X) (w0 := w.drew) a0 hok' hk' hn hd0 hXr hXt L hLk hL' (fun vals w' hX hv => ?_) (fun i o listed vals w' f hki ho hs hsuf h2 _ hex hf hcf hX hv => ?_) ops.size _ a0 _ (by simp) (fun i hi hi' d => by simp [hi']) (fun j o ho hl => ?_) ?_ (hXr _) ⟨fun _ => undef, ?_, fun j p hj hl => ?_⟩
  · have := Fin_framed (ops := ops) L a0 hdst hv (hK w' hX) k (by omega)
    rw [show L.drop k = [] from List.drop_of_length_le (by omega)] at this
    exact this
  · -- the late one is still to come
    have hopen : ∀ j < i, listed.getD j true = false → ¬ hasEdge o j = true := by
      intro j hj hlj hedge
      have hin := (Array.getElem?_eq_some_iff.1 ho).1
      unfold okEdges at h2
      unfold hasEdge at hedge
      obtain ⟨x, hx, hb⟩ := Array.any_eq_true'.1 hedge
      have := Array.all_eq_true'.1 h2 x hx
      simp only [Bool.and_eq_true, beq_iff_eq] at hb
      rw [hb.1, hb.2] at this
      simp only [Bool.not_true, Bool.false_or] at this
      simp only [Array.getD_eq_getD_getElem?, Array.getElem?_eq_getElem (show j < listed.size by omega), Option.getD_some] at this hlj
      rw [this] at hlj; cases hlj
    obtain ⟨i', hi', h1'⟩ := hex
    have hik : i = k := by
      rcases Nat.lt_or_ge k i with hlt | hge
      · exact absurd ((okR_tail hok i o hki ho i' (by omega) (fun e => by omega)).resolve_right (fun h => by cases h.1)) (hopen i' (by omega) h1')
      · omega
    subst hik
    have hrest : ∀ j < i, j ≠ d → listed.getD j true = true := by
      intro j hj hne
      cases hlj : listed.getD j true
      · exact absurd ((okR_tail hok i o hki ho j hj (fun _ e => hne (by injection e with e; exact e.symm))).resolve_right (fun h => by cases h.1)) (hopen j hj hlj)
      · rfl
    have hd' : listed.getD d true = false := by
      by_cases e : i' = d
      · rw [← e]; exact h1'
      · rw [hrest i' hi' e] at h1'; cases h1'
    have hmask : listed = lateMask i d ops.size := by
      apply Array.ext
      · simp [lateMask, hs]
      · intro j hj1 hj2
        have hjn : j < ops.size := by omega
        have hg : listed[j] = listed.getD j true := by simp [hj1]
        rw [hg]
        simp only [lateMask, Array.getElem_map, Array.getElem_range]
        rcases Nat.lt_or_ge j i with hlt | hge
        · by_cases e : j = d
          · subst e; rw [hd']; simp
          · rw [hrest j hlt e]; simp [hlt, e]
        · rw [hsuf j hge hjn true]; simp; omega
    have hfr : (framed ops (fun j => listed.getD j true) vals i a0) = framed ops (fun j => j != d) vals i a0 := by
      apply framed_congr
      intro j hj
      refine ⟨?_, fun _ => rfl⟩
      by_cases e : j = d
      · subst e; rw [hd']; simp
      · rw [hrest j hj e]; simp [e]
    have hw2 := FinM_framed (ops := ops) (vals := vals) (w := w') (mk := fun j => j != d) L a0 hdst (fun j p hmk hp => by
      have hj : j < i := by rw [← hLk]; exact (List.getElem?_eq_some_iff.1 hp).1
      exact hv j p hj (hrest j hj (by simpa using hmk)) hp) (hK2 w' hX) i (by omega)
    rw [show L.drop i = [] from List.drop_of_length_le (by omega)] at hw2
    have hw3 : wpList P ops Q ls (framed ops (fun j => j != d) vals i a0) w' := hw2
    rw [← hls] at hw3
    rw [hfr]
    unfold wpOp
    rw [ho]
    show if Region.wanted o (yielded ops _) = true then _ else _
    simp only [List.filterMap_cons, ho] at hw3
    have hod : ops[d]? = some ops[d] := Array.getElem?_eq_getElem (by omega)
    have hc1 : 1 ≤ cnt (fun j => listed.getD j true) i := by
      rcases Nat.eq_zero_or_pos (cnt (fun j => listed.getD j true) i) with h0 | h0
      · have := cnt_zero (fun j => listed.getD j true) i h0 d hdk
        rw [this] at hd'; cases hd'
      · exact h0
    have hnext := fun a' w'' hh => wpAny_forced (P := P) (Q := Q) (d :: (List.range ops.size).drop (i + 1)) (listed.setIfInBounds i true) f a' w'' (by rw [hmask]; exact hfo) (by simp; omega) hh
    simp only [List.filterMap_cons, hod] at hnext hw3
    simp only [wpList] at hw3
    split at hw3
    · rename_i hwant
      rw [if_pos hwant]
      rcases hw3 with hw3 | hw3
      · exact .inl (Oper.wp_mono (fun a' w'' hh => hnext a' w'' (by simpa only [wpList] using hh)) hw3)
      · exact .inr hw3
    · rename_i hwant
      rw [if_neg hwant]
      exact hnext _ _ (by simpa only [wpList] using hw3)
  · have := (Array.getElem?_eq_some_iff.1 ho).1
    simp [this] at hl
  · have : ∀ m, m ≤ ops.size → cnt (fun j => (Array.replicate ops.size false).getD j true) m = m := by
      intro m
      induction m with
      | zero => intro _; rfl
      | succ m ih => intro hm; simp only [cnt]; rw [ih (by omega)]; simp [show m < ops.size by omega]; omega
    rw [this k hk']; omega
  · have : ∀ m, m ≤ ops.size → framed ops (fun j => (Array.replicate ops.size false).getD j true) (fun _ => undef) m a0 = a0 := by
      intro m
      induction m with
      | zero => intro _; rfl
      | succ m ih => intro hm; simp only [framed]; rw [ih (by omega)]; simp [show m < ops.size by omega]
    exact (this k hk').symm
  · simp [show j < ops.size by omega] at hl

/-! ### the rules -/
variable {rest : List Oper} {E : Nat → Pred} {K : List (Option Tmp × Pred) → Prop}

/-- what is known of an operand -/
def EP (E : Nat → Pred) : Operand → Pred
  | .tmp t => E t
  | .const c => fun v _ => v = c
  | .global g => fun v _ => v = .pointer (some ⟨g, 0, none⟩)
  | .func f => fun v _ => v = .func (.func f) #[] #[]

theorem EP.of {o : Oper} {a : Act} {w : World} (hE : ∀ t ∈ o.looksAt ops, E t (a.tmps.getD t undef) w) {x : Operand} (hx : x ∈ o.op.operands) : EP E x (a.eval x) w := by
  cases x with
  | tmp t =>
    have ht : t ∈ o.looksAt ops := List.mem_append_left _ (List.mem_filterMap.2 ⟨.tmp t, by simpa using hx, rfl⟩)
    have := hE t ht
    simpa [EP, Act.eval] using this
  | const c => rfl
  | global g => rfl
  | func f => rfl

/-- what is known of an operation's guard: it lets the operation by -/
def GuardOk (ops : Array Oper) (E : Nat → Pred) : Option (Nat × Bool) → Prop
  | none => True
  | some (j, want) => ∃ d, (ops[j]?).bind (·.dst) = some d ∧ E d = fun v _ => v = .bool want

theorem wanted_of {o : Oper} {a : Act} {w : World} (hg : GuardOk ops E o.guard) (hE : ∀ t ∈ o.looksAt ops, E t (a.tmps.getD t undef) w) : Region.wanted o (yielded ops a.tmps) = true := by
  unfold Region.wanted
  cases hgd : o.guard with
  | none => rfl
  | some p =>
    obtain ⟨j, want⟩ := p
    rw [hgd] at hg
    obtain ⟨d, hd, hEd⟩ := hg
    have hl : d ∈ o.looksAt ops := by
      unfold Oper.looksAt
      rw [hgd]
      simp [hd]
    have hv := hE d hl
    rw [hEd] at hv
    have hv' : a.tmps.getD d undef = .bool want := hv
    have h2 : a.tmps[d]? = some (.bool want) := by
      rw [Array.getD_eq_getD_getElem?] at hv'
      cases h : a.tmps[d]? with
      | none => rw [h] at hv'; cases hv'
      | some u => rw [h] at hv'; exact congrArg some hv'
    simp [yielded, hd, h2]

theorem r_step {o : Oper} (R : Pred) (hmono : ∀ v w w', X w w' → R v w → R v w') (hg : GuardOk ops E o.guard)
    (hob : ∀ (a : Act) (w : World), X w0 w → (∀ x ∈ o.op.operands, EP E x (a.eval x) w) → o.wp P a w (fun a' w' => ∃ v, a' = a.put o.dst v ∧ X w w' ∧ R v w') (fun _ _ _ => False))
    (h : RW P ops X w0 rest (upd E o.dst R) (fun L => K ((o.dst, R) :: L))) : RW P ops X w0 (o :: rest) E K := by
  refine ⟨R, hmono, fun a w hX hd hE => ?_, h⟩
  rw [if_pos (wanted_of hg hE)]
  exact hob a w hX (fun x hx => EP.of hE hx)

/-- an operation whose guard says no -/
theorem r_skip {d op ty pos aft j want} (hg : GuardOk ops E (some (j, !want)))
    (h : RW P ops X w0 rest (upd E d (fun v _ => v = undef)) (fun L => K ((d, fun v _ => v = undef) :: L))) : RW P ops X w0 (⟨d, op, ty, pos, aft, some (j, want)⟩ :: rest) E K := by
  refine ⟨fun v _ => v = undef, fun _ _ _ _ h => h, fun a w hX hd hE => ?_, h⟩
  have h1 := wanted_of (o := ⟨d, op, ty, pos, aft, some (j, !want)⟩) (ops := ops) (E := E) (a := a) (w := w) hg hE
  have h2 : Region.wanted ⟨d, op, ty, pos, aft, some (j, want)⟩ (yielded ops a.tmps) = false := by
    simp only [Region.wanted, beq_iff_eq] at h1 ⊢
    rw [h1]
    cases want <;> rfl
  rw [h2]
  rfl

/-- an operation that yields a value, the world as it was -/
theorem r_still {o : Oper} (R : Pred) (hmono : ∀ v w w', X w w' → R v w → R v w') (hXr : ∀ a, X a a) (hg : GuardOk ops E o.guard)
    (hob : ∀ (ev : Operand → Value) (w : World), X w0 w → (∀ x ∈ o.op.operands, EP E x (ev x) w) → ∃ v, (execOp ev o).run P w = .ok (.value v) w ∧ R v w)
    (h : RW P ops X w0 rest (upd E o.dst R) (fun L => K ((o.dst, R) :: L))) : RW P ops X w0 (o :: rest) E K := by
  refine r_step R hmono hg (fun a w hX hE => ?_) h
  obtain ⟨v, hr, hR⟩ := hob a.eval w hX hE
  unfold Oper.wp
  rw [hr]
  exact ⟨v, rfl, hXr w, hR⟩
end region

section rules
variable {P : Program} {ops : Array Oper} {w0 : World} {rest : List Oper} {E : Nat → Pred} {K : List (Option Tmp × Pred) → Prop}

/-- what is known of it stays known in later worlds -/
def Stays (R : Pred) : Prop := ∀ v w w', Ext w w' → R v w → R v w'
theorem stays_eq (c : Value) : Stays (fun v _ => v = c) := fun _ _ _ _ h => h
theorem stays_sl (B : Nat) (xs : List Value) : Stays (fun v w => Sl w B v xs) := fun _ _ _ hx h => h.ext hx
theorem stays_own (B : Nat) (e : TypeId) (xs : List Value) : Stays (fun v w => Own w B e v xs) := fun _ _ _ hx h => h.ext hx
/-- a slice that reads so, wherever it lies -/
def SlE (xs : List Value) : Pred := fun v w => ∃ B, Sl w B v xs
theorem stays_sle (xs : List Value) : Stays (SlE xs) := fun _ _ _ hx ⟨B, h⟩ => ⟨B, h.ext hx⟩
theorem Own.sle {w B e v xs} (h : Own w B e v xs) : SlE xs v w := ⟨_, h.sl⟩
/-- a contract's own row, as a region wants it -/
theorem ret_sle {P : Program} {f : FuncId} {args : Array Value} {w : World} {B e xs} (h : Calls P f args w (Ret fun v w' => Ext w w' ∧ Own w' B e v xs)) : Calls P f args w (Ret fun v w' => Ext w w' ∧ SlE xs v w') :=
  h.mono fun _ _ ⟨v, he, hx, ho⟩ => ⟨v, he, hx, ho.sle⟩
/-- a pointer to a cell that holds u -/
def AtCell (u : Value) : Pred := fun v w => ∃ ad, v = .pointer (some ad) ∧ w.cell? ad = some u
theorem cell_ext {w w' : World} (hx : Ext w w') {ad : Addr} {u : Value} (h : w.cell? ad = some u) : w'.cell? ad = some u :=
  (hx.cell (World.block_lt_of_cell? _ _ h)).trans h
theorem stays_cell (u : Value) : Stays (AtCell u) := fun _ _ _ hx ⟨ad, hv, hc⟩ => ⟨ad, hv, cell_ext hx hc⟩

theorem r_move {d ty pos aft g} {x : Operand} (R : Pred) (hx : EP E x = R) (hs : Stays R)
    (h : RW P ops Ext w0 rest (upd E d R) (fun L => K ((d, R) :: L)))
    (hgd : GuardOk ops E g := by first | exact True.intro | exact ⟨_, rfl, rfl⟩) :
    RW P ops Ext w0 (⟨d, .move x, ty, pos, aft, g⟩ :: rest) E K :=
  r_still R hs (fun _ => Below.refl _ _) hgd (fun ev w _ hE => ⟨ev x, by simp [execOp], by rw [← hx]; exact hE x (by simp [Op.operands])⟩) h
theorem r_assign {d ty pos aft g} {x : Operand} (R : Pred) (hx : EP E x = R) (hs : Stays R)
    (h : RW P ops Ext w0 rest (upd E d R) (fun L => K ((d, R) :: L)))
    (hgd : GuardOk ops E g := by first | exact True.intro | exact ⟨_, rfl, rfl⟩) :
    RW P ops Ext w0 (⟨d, .assign x, ty, pos, aft, g⟩ :: rest) E K :=
  r_still R hs (fun _ => Below.refl _ _) hgd (fun ev w _ hE => ⟨ev x, by simp [execOp], by rw [← hx]; exact hE x (by simp [Op.operands])⟩) h

/-- an operation on known values alone -/
theorem r_bin {d ty pos aft g op t t'} {x y : Operand} {cx cy c : Value} (hx : EP E x = fun v _ => v = cx) (hy : EP E y = fun v _ => v = cy)
    (hr : ∀ w, ((do eqGuard op t x y cx cy; binOp op t cx cy : Sem Value)).run P w = .ok c w)
    (h : RW P ops Ext w0 rest (upd E d (fun v _ => v = c)) (fun L => K ((d, fun v _ => v = c) :: L)))
    (hgd : GuardOk ops E g := by first | exact True.intro | exact ⟨_, rfl, rfl⟩) :
    RW P ops Ext w0 (⟨d, .binOp op t x y t', ty, pos, aft, g⟩ :: rest) E K := by
  refine r_still _ (stays_eq c) (fun _ => Below.refl _ _) hgd (fun ev w _ hE => ⟨c, ?_, rfl⟩) h
  have h1 : ev x = cx := by have h1 := hE x (by simp [Op.operands]); rw [hx] at h1; exact h1
  have h2 : ev y = cy := by have h2 := hE y (by simp [Op.operands]); rw [hy] at h2; exact h2
  have hr' := hr w
  simp only [execOp, h1, h2, Sem.run_bind] at hr' ⊢
  rw [hr']
  rfl
theorem r_un {d ty pos aft g op t} {x : Operand} {cx c : Value} (hx : EP E x = fun v _ => v = cx)
    (hr : ∀ w, (Op.unary op cx).run P w = .ok c w)
    (h : RW P ops Ext w0 rest (upd E d (fun v _ => v = c)) (fun L => K ((d, fun v _ => v = c) :: L)))
    (hgd : GuardOk ops E g := by first | exact True.intro | exact ⟨_, rfl, rfl⟩) :
    RW P ops Ext w0 (⟨d, .unOp op t x, ty, pos, aft, g⟩ :: rest) E K := by
  refine r_still _ (stays_eq c) (fun _ => Below.refl _ _) hgd (fun ev w _ hE => ⟨c, ?_, rfl⟩) h
  have h1 : ev x = cx := by have h1 := hE x (by simp [Op.operands]); rw [hx] at h1; exact h1
  simp only [execOp, h1, Sem.run_bind, hr]
  rfl
theorem r_conv {d ty pos aft g s t} {x : Operand} {cx c : Value} (hx : EP E x = fun v _ => v = cx)
    (hr : ∀ w, (convert s t cx).run P w = .ok c w)
    (h : RW P ops Ext w0 rest (upd E d (fun v _ => v = c)) (fun L => K ((d, fun v _ => v = c) :: L)))
    (hgd : GuardOk ops E g := by first | exact True.intro | exact ⟨_, rfl, rfl⟩) :
    RW P ops Ext w0 (⟨d, .convert s t x, ty, pos, aft, g⟩ :: rest) E K := by
  refine r_still _ (stays_eq c) (fun _ => Below.refl _ _) hgd (fun ev w _ hE => ⟨c, ?_, rfl⟩) h
  have h1 : ev x = cx := by have h1 := hE x (by simp [Op.operands]); rw [hx] at h1; exact h1
  simp only [execOp, h1, Sem.run_bind, hr]
  rfl

theorem r_len {d ty pos aft g} {x : Operand} {t e : TypeId} {xs : List Value} (ht : P.underlying t = some (.slice e)) (hx : ∀ v w, Ext w0 w → EP E x v w → ∃ B, Sl w B v xs)
    (h : RW P ops Ext w0 rest (upd E d (fun v _ => v = .int .i64 (xs.length : Int))) (fun L => K ((d, fun v _ => v = .int .i64 (xs.length : Int)) :: L)))
    (hgd : GuardOk ops E g := by first | exact True.intro | exact ⟨_, rfl, rfl⟩) :
    RW P ops Ext w0 (⟨d, .call { callee := .builtin .len, args := #[x], argTypes := #[t] }, ty, pos, aft, g⟩ :: rest) E K := by
  refine r_still _ (stays_eq _) (fun _ => Below.refl _ _) hgd (fun ev w hX hE => ⟨_, ?_, rfl⟩) h
  obtain ⟨B, hs⟩ := hx _ _ hX (hE x (by simp [Op.operands, Call.operands]))
  simp [execOp, resolve, invoke, builtin, run_len ht hs]

theorem r_str {d ty pos aft g} {x : Operand} {src dst e : TypeId} {l : List UInt8} (hs : P.underlying src = some (.slice e)) (he : P.underlying e = some (.int .u8)) (hd : P.underlying dst = some .string)
    (hx : ∀ v w, Ext w0 w → EP E x v w → ∃ B, Sl w B v (l.map bU))
    (h : RW P ops Ext w0 rest (upd E d (fun v _ => v = .string ⟨l.toArray⟩)) (fun L => K ((d, fun v _ => v = .string ⟨l.toArray⟩) :: L)))
    (hgd : GuardOk ops E g := by first | exact True.intro | exact ⟨_, rfl, rfl⟩) :
    RW P ops Ext w0 (⟨d, .convert src dst x, ty, pos, aft, g⟩ :: rest) E K := by
  refine r_still _ (stays_eq _) (fun _ => Below.refl _ _) hgd (fun ev w hX hE => ⟨_, ?_, rfl⟩) h
  obtain ⟨B, hsl⟩ := hx _ _ hX (hE x (by simp [Op.operands]))
  simp [execOp, run_bytes_string hs he hd hsl]

/-- the callee by its contract -/
theorem r_call {d ty pos aft g f} {fn : Func} {xs : Array Operand} {ts : Array TypeId} (R : Pred) (hs : Stays R) (hf : P.funcs[f]? = some fn) (hname : (fn.name == "runtime.NumGoroutine") = false) (hb : fn.body.isNone = false)
    (hc : ∀ (ev : Operand → Value) w, Ext w0 w → (∀ x ∈ xs, EP E x (ev x) w) → Calls P f (xs.map ev) w (Ret fun v w' => Ext w w' ∧ R v w'))
    (h : RW P ops Ext w0 rest (upd E d R) (fun L => K ((d, R) :: L)))
    (hgd : GuardOk ops E g := by first | exact True.intro | exact ⟨_, rfl, rfl⟩) :
    RW P ops Ext w0 (⟨d, .call { callee := .value (.func f), args := xs, argTypes := ts }, ty, pos, aft, g⟩ :: rest) E K := by
  refine r_step R hs hgd (fun a w hX hE => ?_) h
  have hrun : (execOp a.eval ⟨d, .call { callee := .value (.func f), args := xs, argTypes := ts }, ty, pos, aft, g⟩).run P w = .ok (.enter f (xs.map a.eval)) w := by
    have hname' : ¬ fn.name = "runtime.NumGoroutine" := by simpa using hname
    have hb' : ¬ fn.body = none := fun h0 => by rw [h0] at hb; cases hb
    simp [execOp, resolve, invoke, callFunc, Deferred.ofValue, Act.eval, hf, hname', hb']
  unfold Oper.wp
  rw [hrun]
  refine (hc a.eval w hX (fun x hx => hE x (by simp [Op.operands, Call.operands, hx]))).mono fun e w' ⟨v, he, hx', hR⟩ => ?_
  subst he
  exact ⟨v, rfl, hx', hR⟩

theorem r_slice_to {d ty pos aft g} {x r : Operand} {t e : TypeId} {info : TypeInfo} {B : Nat} {xs : List Value} {m : Nat} {n' : Int} {kd : IntKind} (ht : P.underlying t = some (.slice e)) (hi : P.info? e = some info)
    (hx : ∀ v w, Ext w0 w → EP E x v w → Sl w B v xs) (hr : EP E r = fun v _ => v = .int kd n') (hn : n' = (m : Int)) (hm : m ≤ xs.length)
    (h : RW P ops Ext w0 rest (upd E d (fun v w => Sl w B v (xs.take m))) (fun L => K ((d, fun v w => Sl w B v (xs.take m)) :: L)))
    (hgd : GuardOk ops E g := by first | exact True.intro | exact ⟨_, rfl, rfl⟩) :
    RW P ops Ext w0 (⟨d, .slice t x none (some r) none, ty, pos, aft, g⟩ :: rest) E K := by
  refine r_still _ (stays_sl B _) (fun _ => Below.refl _ _) hgd (fun ev w hX hE => ?_) h
  have hS := hx _ _ hX (hE x (by simp [Op.operands]))
  have h2 : ev r = .int kd n' := by have h2 := hE r (by simp [Op.operands]); rw [hr] at h2; exact h2
  obtain ⟨hB, A, c, hv, hlc, hc, hA, hcell⟩ := hS
  have hS : Sl w B (.slice A xs.length c) xs := ⟨hB, A, c, rfl, hlc, hc, hA, hcell⟩
  subst hn
  have h1 : m ≤ c := by omega
  refine ⟨_, ?_, by simpa using hS.cut (Nat.zero_le m) hm⟩
  simp [execOp, hv, h2, Instr.sliceAt, Instr.slice, Instr.sliceBounds, Instr.sliceBound, asIntOf, run_underlying ht, sizeOf, typeInfo, hi, h1]
theorem r_slice_from {d ty pos aft g} {x r : Operand} {t e : TypeId} {info : TypeInfo} {B : Nat} {xs : List Value} {m : Nat} {n' : Int} {kd : IntKind} (ht : P.underlying t = some (.slice e)) (hi : P.info? e = some info) (hs : info.size = 1)
    (hx : ∀ v w, Ext w0 w → EP E x v w → Sl w B v xs) (hr : EP E r = fun v _ => v = .int kd n') (hn : n' = (m : Int)) (hm : m ≤ xs.length)
    (h : RW P ops Ext w0 rest (upd E d (fun v w => Sl w B v (xs.drop m))) (fun L => K ((d, fun v w => Sl w B v (xs.drop m)) :: L)))
    (hgd : GuardOk ops E g := by first | exact True.intro | exact ⟨_, rfl, rfl⟩) :
    RW P ops Ext w0 (⟨d, .slice t x (some r) none none, ty, pos, aft, g⟩ :: rest) E K := by
  refine r_still _ (stays_sl B _) (fun _ => Below.refl _ _) hgd (fun ev w hX hE => ?_) h
  have hS := hx _ _ hX (hE x (by simp [Op.operands]))
  have h2 : ev r = .int kd n' := by have h2 := hE r (by simp [Op.operands]); rw [hr] at h2; exact h2
  obtain ⟨hB, A, c, hv, hlc, hc, hA, hcell⟩ := hS
  have hS : Sl w B (.slice A xs.length c) xs := ⟨hB, A, c, rfl, hlc, hc, hA, hcell⟩
  subst hn
  refine ⟨_, ?_, by simpa using hS.cut hm (Nat.le_refl _)⟩
  simp [execOp, hv, h2, Instr.sliceAt, Instr.slice, Instr.sliceBounds, Instr.sliceBound, asIntOf, run_underlying ht, sizeOf, typeInfo, hi, hs, hm]
theorem r_slice {d ty pos aft g} {x l r : Operand} {t e : TypeId} {info : TypeInfo} {B : Nat} {xs : List Value} {k m : Nat} {n n' : Int} {kd kd' : IntKind} (ht : P.underlying t = some (.slice e)) (hi : P.info? e = some info) (hs : info.size = 1)
    (hx : ∀ v w, Ext w0 w → EP E x v w → Sl w B v xs) (hl : EP E l = fun v _ => v = .int kd n) (hr : EP E r = fun v _ => v = .int kd' n') (hn : n = (k : Int)) (hn' : n' = (m : Int)) (hkm : k ≤ m) (hm : m ≤ xs.length)
    (h : RW P ops Ext w0 rest (upd E d (fun v w => Sl w B v ((xs.take m).drop k))) (fun L => K ((d, fun v w => Sl w B v ((xs.take m).drop k)) :: L)))
    (hgd : GuardOk ops E g := by first | exact True.intro | exact ⟨_, rfl, rfl⟩) :
    RW P ops Ext w0 (⟨d, .slice t x (some l) (some r) none, ty, pos, aft, g⟩ :: rest) E K := by
  refine r_still _ (stays_sl B _) (fun _ => Below.refl _ _) hgd (fun ev w hX hE => ?_) h
  have hS := hx _ _ hX (hE x (by simp [Op.operands]))
  have h1 : ev l = .int kd n := by have h2 := hE l (by simp [Op.operands]); rw [hl] at h2; exact h2
  have h2 : ev r = .int kd' n' := by have h2 := hE r (by simp [Op.operands]); rw [hr] at h2; exact h2
  obtain ⟨hB, A, c, hv, hlc, hc, hA, hcell⟩ := hS
  have hS : Sl w B (.slice A xs.length c) xs := ⟨hB, A, c, rfl, hlc, hc, hA, hcell⟩
  subst hn; subst hn'
  have h3 : m ≤ c := by omega
  refine ⟨_, ?_, hS.cut hkm hm⟩
  simp [execOp, hv, h1, h2, Instr.sliceAt, Instr.slice, Instr.sliceBounds, Instr.sliceBound, asIntOf, run_underlying ht, sizeOf, typeInfo, hi, hs, h3, hkm]

theorem r_index {d ty pos aft g} {x i : Operand} {t e : TypeId} {info : TypeInfo} {xs : List Value} {k : Nat} {n : Int} {kd : IntKind} {u : Value} (ht : P.underlying t = some (.slice e)) (hi : P.info? e = some info) (hs : info.size = 1)
    (hx : ∀ v w, Ext w0 w → EP E x v w → ∃ B, Sl w B v xs) (hr : EP E i = fun v _ => v = .int kd n) (hn : n = (k : Int)) (hu : xs[k]? = some u)
    (h : RW P ops Ext w0 rest (upd E d (AtCell u)) (fun L => K ((d, AtCell u) :: L)))
    (hgd : GuardOk ops E g := by first | exact True.intro | exact ⟨_, rfl, rfl⟩) :
    RW P ops Ext w0 (⟨d, .indexAddr t x i, ty, pos, aft, g⟩ :: rest) E K := by
  refine r_still _ (stays_cell u) (fun _ => Below.refl _ _) hgd (fun ev w hX hE => ?_) h
  obtain ⟨B, hB, A, c, hv, hlc, hc, hA, hcell⟩ := hx _ _ hX (hE x (by simp [Op.operands]))
  have h2 : ev i = .int kd n := by have h2 := hE i (by simp [Op.operands]); rw [hr] at h2; exact h2
  have hk : k < xs.length := (List.getElem?_eq_some_iff.1 hu).1
  subst hn
  cases A with
  | none => have := hA rfl; omega
  | some ad =>
    refine ⟨.pointer (some (ad.add k)), ?_, ad.add k, rfl, (hcell ad rfl k u hu).2⟩
    simp [execOp, hv, h2, Instr.indexAt, asIntOf, run_underlying ht, sizeOf, typeInfo, hi, hs, hk]

/-- one, two, three, four arguments -/
theorem r_call1 {d ty pos aft g f} {fn : Func} {x : Operand} {ts : Array TypeId} (R : Pred) (hs : Stays R) (hf : P.funcs[f]? = some fn) (hname : (fn.name == "runtime.NumGoroutine") = false) (hb : fn.body.isNone = false)
    (hc : ∀ v w, Ext w0 w → EP E x v w → Calls P f #[v] w (Ret fun v w' => Ext w w' ∧ R v w'))
    (h : RW P ops Ext w0 rest (upd E d R) (fun L => K ((d, R) :: L)))
    (hgd : GuardOk ops E g := by first | exact True.intro | exact ⟨_, rfl, rfl⟩) :
    RW P ops Ext w0 (⟨d, .call { callee := .value (.func f), args := #[x], argTypes := ts }, ty, pos, aft, g⟩ :: rest) E K :=
  r_call R hs hf hname hb (fun ev w hX hE => by simpa using hc (ev x) w hX (hE x (by simp))) h hgd
theorem r_call2 {d ty pos aft g f} {fn : Func} {x y : Operand} {ts : Array TypeId} (R : Pred) (hs : Stays R) (hf : P.funcs[f]? = some fn) (hname : (fn.name == "runtime.NumGoroutine") = false) (hb : fn.body.isNone = false)
    (hc : ∀ v v2 w, Ext w0 w → EP E x v w → EP E y v2 w → Calls P f #[v, v2] w (Ret fun v w' => Ext w w' ∧ R v w'))
    (h : RW P ops Ext w0 rest (upd E d R) (fun L => K ((d, R) :: L)))
    (hgd : GuardOk ops E g := by first | exact True.intro | exact ⟨_, rfl, rfl⟩) :
    RW P ops Ext w0 (⟨d, .call { callee := .value (.func f), args := #[x, y], argTypes := ts }, ty, pos, aft, g⟩ :: rest) E K :=
  r_call R hs hf hname hb (fun ev w hX hE => by simpa using hc (ev x) (ev y) w hX (hE x (by simp)) (hE y (by simp))) h hgd
theorem r_call3 {d ty pos aft g f} {fn : Func} {x y z : Operand} {ts : Array TypeId} (R : Pred) (hs : Stays R) (hf : P.funcs[f]? = some fn) (hname : (fn.name == "runtime.NumGoroutine") = false) (hb : fn.body.isNone = false)
    (hc : ∀ v v2 v3 w, Ext w0 w → EP E x v w → EP E y v2 w → EP E z v3 w → Calls P f #[v, v2, v3] w (Ret fun v w' => Ext w w' ∧ R v w'))
    (h : RW P ops Ext w0 rest (upd E d R) (fun L => K ((d, R) :: L)))
    (hgd : GuardOk ops E g := by first | exact True.intro | exact ⟨_, rfl, rfl⟩) :
    RW P ops Ext w0 (⟨d, .call { callee := .value (.func f), args := #[x, y, z], argTypes := ts }, ty, pos, aft, g⟩ :: rest) E K :=
  r_call R hs hf hname hb (fun ev w hX hE => by simpa using hc (ev x) (ev y) (ev z) w hX (hE x (by simp)) (hE y (by simp)) (hE z (by simp))) h hgd
theorem r_call4 {d ty pos aft g f} {fn : Func} {x y z x4 : Operand} {ts : Array TypeId} (R : Pred) (hs : Stays R) (hf : P.funcs[f]? = some fn) (hname : (fn.name == "runtime.NumGoroutine") = false) (hb : fn.body.isNone = false)
    (hc : ∀ v v2 v3 v4 w, Ext w0 w → EP E x v w → EP E y v2 w → EP E z v3 w → EP E x4 v4 w → Calls P f #[v, v2, v3, v4] w (Ret fun v w' => Ext w w' ∧ R v w'))
    (h : RW P ops Ext w0 rest (upd E d R) (fun L => K ((d, R) :: L)))
    (hgd : GuardOk ops E g := by first | exact True.intro | exact ⟨_, rfl, rfl⟩) :
    RW P ops Ext w0 (⟨d, .call { callee := .value (.func f), args := #[x, y, z, x4], argTypes := ts }, ty, pos, aft, g⟩ :: rest) E K :=
  r_call R hs hf hname hb (fun ev w hX hE => by simpa using hc (ev x) (ev y) (ev z) (ev x4) w hX (hE x (by simp)) (hE y (by simp)) (hE z (by simp)) (hE x4 (by simp))) h hgd

/-- the load of one cell, of a type that is no aggregate -/
theorem r_load {d ty pos aft g} {x : Operand} {t : TypeId} {u : Value} {ds : TypeDesc} (ht : P.underlying t = some ds) (hds : (match ds with | .struct _ | .array _ _ => false | _ => true) = true)
    (hx : ∀ v w, Ext w0 w → EP E x v w → AtCell u v w)
    (h : RW P ops Ext w0 rest (upd E d (fun v _ => v = u)) (fun L => K ((d, fun v _ => v = u) :: L)))
    (hgd : GuardOk ops E g := by first | exact True.intro | exact ⟨_, rfl, rfl⟩) :
    RW P ops Ext w0 (⟨d, .load t x, ty, pos, aft, g⟩ :: rest) E K := by
  refine r_still _ (stays_eq u) (fun _ => Below.refl _ _) hgd (fun ev w hX hE => ⟨u, ?_, rfl⟩) h
  obtain ⟨ad, hv, hc⟩ := hx _ _ hX (hE x (by simp [Op.operands]))
  have hagg : (isAgg t).run P w = .ok false w := by
    unfold isAgg
    rw [Sem.run_bind, run_underlying ht w]
    cases ds <;> simp_all
  simp [execOp, hv, Instr.loadAt, Instr.sureAddr, loadVar, hagg, hc]
end rules
end Go.Ch
