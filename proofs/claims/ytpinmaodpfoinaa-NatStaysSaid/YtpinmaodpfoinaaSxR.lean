import Derived.Test.YtpinmaodpfoinaaSxQ
set_option linter.unusedVariables false
set_option linter.unusedSimpArgs false
namespace Go.Sx
open Go.RowKit Go.Ch
section
variable {P : Program} {T : Tab} {ft : Nat → FT} {ρ ρ' : Pls} {w w' : World} {bs : Bs} {w0 : World} {s s' : S} {a : Act} {N m : Nat}

/-! ### a region that draws its order -/
def pC (q : Nat → Bool) : Cl → Bool
  | .wh i => q i
  | .sl i _ _ => q i
  | .pt i _ => q i
  | _ => true
def pL (q : Nat → Bool) : List Cl → Bool
  | [] => true
  | c :: l => pC q c && pL q l
def pX (q : Nat → Bool) : Cs → Bool
  | .c l => pL q l
  | _ => true
def p1 (q : Nat → Bool) : A1 → Bool
  | .c x => pC q x
  | .g _ cs => pX q cs
def p1s (q : Nat → Bool) : List A1 → Bool
  | [] => true
  | x :: l => p1 q x && p1s q l
def pA (q : Nat → Bool) : AV → Bool
  | .c x => pC q x
  | .g _ cs => pX q cs
  | .t xs => p1s q xs
variable {q : Nat → Bool}
theorem pC_ok (hρ : ∀ i, q i = true → ρ' i = ρ i) {c : Cl} (h : pC q c = true) {v : Value} (hv : clR ρ c v) : clR ρ' c v := by
  cases c with
  | wh i => simp only [pC] at h; simp only [clR, hρ i h] at hv ⊢; exact hv
  | sl i lo n => simp only [pC] at h; simp only [clR, hρ i h] at hv ⊢; exact hv
  | pt i off => simp only [pC] at h; simp only [clR, hρ i h] at hv ⊢; exact hv
  | s x => exact hv
  | nils => exact hv
  | junk => exact hv
theorem pL_mem : ∀ {l : List Cl}, pL q l = true → ∀ c ∈ l, pC q c = true
  | [], _, c, hc => by cases hc
  | x :: l, h, c, hc => by
    simp only [pL, Bool.and_eq_true] at h
    rcases List.mem_cons.1 hc with rfl | hc
    · exact h.1
    · exact pL_mem h.2 c hc
theorem pX_ok (hρ : ∀ i, q i = true → ρ' i = ρ i) {cs : Cs} (h : pX q cs = true) {vs : List Value} (hv : csR ρ cs vs) : csR ρ' cs vs := by
  cases cs with
  | c l => exact F2.mono hv (fun c hc v hr => pC_ok hρ (pL_mem h c hc) hr)
  | b l => exact csR_b.2 (csR_b.1 hv)
  | w l => exact csR_w.2 (csR_w.1 hv)
  | q l => exact csR_q.2 (csR_q.1 hv)
  | z l => exact csR_z.2 (csR_z.1 hv)
theorem p1_ok (hρ : ∀ i, q i = true → ρ' i = ρ i) {x : A1} (h : p1 q x = true) {v : Value} (hv : a1R ρ x v) : a1R ρ' x v := by
  cases x with
  | c x => exact pC_ok hρ h hv
  | g n cs => obtain ⟨vs, hc, hn, he⟩ := hv; exact ⟨vs, pX_ok hρ h hc, hn, he⟩
theorem p1s_mem : ∀ {l : List A1}, p1s q l = true → ∀ c ∈ l, p1 q c = true
  | [], _, c, hc => by cases hc
  | x :: l, h, c, hc => by
    simp only [p1s, Bool.and_eq_true] at h
    rcases List.mem_cons.1 hc with rfl | hc
    · exact h.1
    · exact p1s_mem h.2 c hc
theorem pA_ok (hρ : ∀ i, q i = true → ρ' i = ρ i) {x : AV} (h : pA q x = true) {v : Value} (hv : avR ρ x v) : avR ρ' x v := by
  cases x with
  | c x => exact pC_ok hρ h hv
  | g n cs => obtain ⟨vs, hc, hn, he⟩ := hv; exact ⟨vs, pX_ok hρ h hc, hn, he⟩
  | t xs => obtain ⟨vs, hc, he⟩ := hv; exact ⟨vs, F2.mono hc (fun c hc v hr => p1_ok hρ (p1s_mem h c hc) hr), he⟩
theorem objR_p (hρ : ∀ i, q i = true → ρ' i = ρ i) {p : Pl} {o : Oj} (h : pX q o.cs = true) (hv : objR ρ w p o) : objR ρ' w p o := by
  unfold objR at hv ⊢
  cases hk : o.kd with
  | dead => exact True.intro
  | ro fs => simp only [hk] at hv ⊢; obtain ⟨h0, h1, vs, hc, hA⟩ := hv; exact ⟨h0, h1, vs, pX_ok hρ h hc, hA⟩
  | row => simp only [hk] at hv ⊢; obtain ⟨h0, vs, hc, hA⟩ := hv; exact ⟨h0, vs, pX_ok hρ h hc, hA⟩
  | blk => simp only [hk] at hv ⊢; obtain ⟨h0, b, vs, hA, hc, hB⟩ := hv; exact ⟨h0, b, vs, hA, pX_ok hρ h hc, hB⟩
def ltq (m : Nat) : Nat → Bool := fun j => decide (j < m)
def ltq1 (m i : Nat) : Nat → Bool := fun j => decide (j < m) || Nat.beq j i

/-- a slot's value; the new object that it may look at -/
structure Fe where
  av : AV
  nw : Option (Nat × Oj)
def feR (ρ : Pls) (w0 : World) (x : Fe) (v : Value) (w : World) : Prop := match x.nw with
  | none => avR ρ x.av v
  | some (i, o) => ∃ p, objR ρ w p o ∧ (∀ g, objAt p o g → w0.heap.size ≤ g ∨ o.kd = .ro false) ∧ avR (upd ρ i p) x.av v
theorem objR_ext {p : Pl} {o : Oj} (h : objR ρ w p o) (hx : Ext w w') : objR ρ w' p o := h.keep fun g hlt _ => hx.block g hlt
theorem feR_ext {x : Fe} {v : Value} (hx : Ext w w') (h : feR ρ w0 x v w) : feR ρ w0 x v w' := by
  unfold feR at h ⊢
  cases hn : x.nw with
  | none => simp only [hn] at h ⊢; exact h
  | some io => obtain ⟨i, o⟩ := io; simp only [hn] at h ⊢; obtain ⟨p, h1, h2, h3⟩ := h; exact ⟨p, objR_ext h1 hx, h2, h3⟩
abbrev FrN := List (Nat × Fe)
def lkN (fr : FrN) (t : Nat) : Option Fe := fr.lookup t
def aeN (fr : FrN) (gl : Fr) : Operand → Option AV
  | .tmp t => match fr.lookup t with | some x => some x.av | none => none
  | .const v => cv v
  | .global g => glk gl g
  | .func f => some (.c (.s (.v (.func (.func f) #[] #[]))))
/-- the new objects that operands look at: slot, number, object -/
def nws (fr : FrN) : List Operand → List (Nat × Nat × Oj)
  | [] => []
  | .tmp t :: l => (match fr.lookup t with
    | some x => (match x.nw with
      | some (i, o) => (match (nws fr l).any (fun y => Nat.beq y.1 t) with | true => nws fr l | false => (t, i, o) :: nws fr l)
      | none => nws fr l)
    | none => nws fr l)
  | _ :: l => nws fr l
def atN (acc : List (Nat × Nat × Oj)) (i : Nat) : Oj := match acc.find? (fun y => Nat.beq y.2.1 i) with | some y => y.2.2 | none => ⟨.dead, 0, 0, 0, .b []⟩
def padN (acc : List (Nat × Nat × Oj)) (m : Nat) : Nat → Hp
  | 0 => []
  | k + 1 => padN acc m k ++ [atN acc (m + k)]
theorem padN_len (acc : List (Nat × Nat × Oj)) (m : Nat) : ∀ k, (padN acc m k).length = k
  | 0 => rfl
  | k + 1 => by simp [padN, padN_len acc m k]
theorem padN_at (acc : List (Nat × Nat × Oj)) (m : Nat) : ∀ {k j : Nat} {o : Oj}, (padN acc m k)[j]? = some o → o = atN acc (m + j)
  | 0, j, o, h => by simp [padN] at h
  | k + 1, j, o, h => by
    simp only [padN] at h
    by_cases hj : j < k
    · rw [List.getElem?_append_left (by rw [padN_len]; exact hj)] at h
      exact padN_at acc m h
    · rw [List.getElem?_append_right (by rw [padN_len]; omega), padN_len] at h
      cases hk : j - k with
      | zero => rw [hk] at h; simp at h; rw [← h, show j = k by omega]
      | succ z => rw [hk] at h; simp at h
structure Ns where
  fr : FrN
  cnt : Nat
  dm : Bool
def putN (fr : FrN) (d : Option Nat) (x : Fe) : FrN := match d with
  | some d => (d, x) :: fr.filter (fun p => !(p.1 == d))
  | none => fr
def dropN (fr : FrN) (d : Option Nat) : FrN := match d with
  | some d => fr.filter (fun p => !(p.1 == d))
  | none => fr
def idsN (acc : List (Nat × Nat × Oj)) : List Nat := acc.map fun y => y.2.1
/-- which new object a result looks at -/
def newOf (m : Nat) (z : AV) : List (Nat × Nat × Oj) → Option (Option (Nat × Oj))
  | [] => match pA (ltq m) z with | true => some none | false => none
  | y :: l => match pA (ltq m) z with
    | true => some none
    | false => match pA (ltq1 m y.2.1) z with | true => some (some (y.2.1, y.2.2)) | false => newOf m z l
def okOb (m : Nat) (o : Oj) : Bool := pX (ltq m) o.cs && (match o.kd with | .dead => false | _ => true)
/-- just the slots that operands name -/
def opF (l : List Operand) (fr : FrN) : FrN := fr.filter fun p => l.any fun x => match x with | .tmp t => Nat.beq t p.1 | _ => false
theorem opF_lk {l : List Operand} {fr : FrN} {t : Nat} {x : Fe} (h : (opF l fr).lookup t = some x) : fr.lookup t = some x ∧ Operand.tmp t ∈ l := by
  unfold opF at h
  induction fr with
  | nil => simp at h
  | cons p fr ih =>
    obtain ⟨k, z⟩ := p
    rw [List.filter_cons] at h
    split at h
    · rename_i hk
      rw [List.lookup_cons] at h ⊢
      split at h
      · rename_i e
        have e2 : t = k := by simpa using e
        subst e2
        obtain ⟨y, hy, hy2⟩ := List.any_eq_true.1 hk
        cases y with
        | tmp t2 => have := Nat.eq_of_beq_eq_true hy2; simp only at this; subst this; exact ⟨h, hy⟩
        | _ => cases hy2
      · exact ih h
    · rename_i hk
      obtain ⟨h1, h2⟩ := ih h
      refine ⟨?_, h2⟩
      rw [List.lookup_cons]
      split
      · rename_i e
        have e2 : t = k := by simpa using e
        subst e2
        exact absurd (List.any_eq_true.2 ⟨_, h2, Nat.beq_refl t⟩) hk
      · exact h1
/-- one operation, in any order -/
def stN (T : Tab) (ft : FT) (s0 : S) (st : Ns) (o : Oper) : Option (List Prop × Fe × Nat × Bool) :=
  let m := s0.H.length
  let fr := opF o.op.operands.toList st.fr
  let ae := aeN fr s0.gl
  let acc := nws fr o.op.operands.toList
  let H := s0.H ++ padN acc m (st.cnt - m)
  match nodup (idsN acc) && decide (m ≤ st.cnt) with
  | false => none
  | true => match vop T H ae o.op with
    | some (g, z) => (match newOf m z acc with | some nw => some (g, ⟨z, nw⟩, st.cnt, st.dm) | none => none)
    | none => match aop T ae o.op o.type with
      | some (g, b, ob) => (match okOb m ob with | true => some (g, ⟨if b then .c (.pt st.cnt 0) else .c (.wh st.cnt), some (st.cnt, ob)⟩, st.cnt + 1, st.dm) | false => none)
      | none => match o.op with
        | .call c => (match c.callee with
          | .value (.func f) => (match ft f, evs ae c.args.toList with
            | some F, some vs => (match F vs H with
              | some (g, av, objs) => (match objs with
                | [] => (match pA (ltq m) av with | true => some (g, ⟨av, none⟩, st.cnt, st.dm) | false => none)
                | [ob] => (match okOb m ob && pA (ltq1 m st.cnt) av with | true => some (g, ⟨av, some (st.cnt, ob)⟩, st.cnt + 1, st.dm || hasRo [ob]) | false => none)
                | _ => none)
              | none => none)
            | _, _ => none)
          | _ => none)
        | _ => none
/-- what is known of the slots -/
def FrP (ρ : Pls) (w0 : World) (st : Ns) (E : Nat → Pred) : Prop := ∀ t x, st.fr.lookup t = some x → ∀ v w, Ext w0 w → E t v w → feR ρ w0 x v w
/-- entries keep to their objects -/
def OkN (m : Nat) (st : Ns) : Prop := m ≤ st.cnt ∧ ∀ t x, st.fr.lookup t = some x → match x.nw with
  | none => pA (ltq m) x.av = true
  | some (i, o) => m ≤ i ∧ i < st.cnt ∧ okOb m o = true ∧ pA (ltq1 m i) x.av = true ∧ (o.kd = .ro false → st.dm = true)
theorem nws_mem {fr : FrN} : ∀ {l : List Operand} {y : Nat × Nat × Oj}, y ∈ nws fr l → ∃ x, Operand.tmp y.1 ∈ l ∧ fr.lookup y.1 = some x ∧ x.nw = some (y.2.1, y.2.2)
  | [], y, h => by simp [nws] at h
  | .tmp t :: l, y, h => by
    have rec_ : y ∈ nws fr l → ∃ x, Operand.tmp y.1 ∈ Operand.tmp t :: l ∧ fr.lookup y.1 = some x ∧ x.nw = some (y.2.1, y.2.2) := fun h => by
      obtain ⟨x, h1, h2, h3⟩ := nws_mem h; exact ⟨x, List.mem_cons_of_mem _ h1, h2, h3⟩
    simp only [nws] at h
    split at h
    · rename_i x hx
      split at h
      · rename_i i o hio
        split at h
        · exact rec_ h
        · rcases List.mem_cons.1 h with rfl | h
          · exact ⟨x, by simp, hx, hio⟩
          · exact rec_ h
      · exact rec_ h
    · exact rec_ h
  | .const c :: l, y, h => by obtain ⟨x, h1, h2, h3⟩ := nws_mem (l := l) (by simpa [nws] using h); exact ⟨x, List.mem_cons_of_mem _ h1, h2, h3⟩
  | .global c :: l, y, h => by obtain ⟨x, h1, h2, h3⟩ := nws_mem (l := l) (by simpa [nws] using h); exact ⟨x, List.mem_cons_of_mem _ h1, h2, h3⟩
  | .func c :: l, y, h => by obtain ⟨x, h1, h2, h3⟩ := nws_mem (l := l) (by simpa [nws] using h); exact ⟨x, List.mem_cons_of_mem _ h1, h2, h3⟩
theorem nws_has {fr : FrN} {t i : Nat} {o : Oj} {x : Fe} (hx : fr.lookup t = some x) (hn : x.nw = some (i, o)) (l : List Operand) (h : Operand.tmp t ∈ l) : (t, i, o) ∈ nws fr l := by
  induction l with
  | nil => cases h
  | cons y l ih =>
    cases y with
    | const c => simp only [List.mem_cons, reduceCtorEq, false_or] at h; exact ih h
    | global c => simp only [List.mem_cons, reduceCtorEq, false_or] at h; exact ih h
    | func c => simp only [List.mem_cons, reduceCtorEq, false_or] at h; exact ih h
    | tmp t' =>
      by_cases e : t = t'
      · subst e
        simp only [nws, hx, hn]
        split
        · rename_i hany
          obtain ⟨y, hy, hy1⟩ := List.any_eq_true.1 hany
          have e := Nat.eq_of_beq_eq_true hy1
          obtain ⟨x', _, hx', hn'⟩ := nws_mem hy
          rw [e, hx] at hx'; injection hx' with hx'; subst hx'
          rw [hn] at hn'; injection hn' with hn'
          obtain ⟨y1, y2, y3⟩ := y
          simp only [Prod.mk.injEq] at hn' e
          obtain ⟨rfl, rfl⟩ := hn'
          subst e; exact hy
        · exact List.mem_cons_self
      · have h' : Operand.tmp t ∈ l := by
          rcases List.mem_cons.1 h with e2 | h2
          · injection e2 with e2; exact absurd e2 e
          · exact h2
        have h3 := ih h'
        simp only [nws]
        split
        · split
          · split
            · exact h3
            · exact List.mem_cons_of_mem _ h3
          · exact h3
        · exact h3
theorem find_ids {acc : List (Nat × Nat × Oj)} (hnd : nodup (idsN acc) = true) {y : Nat × Nat × Oj} (hy : y ∈ acc) : acc.find? (fun z => Nat.beq z.2.1 y.2.1) = some y := by
  induction acc with
  | nil => cases hy
  | cons z acc ih =>
    simp only [idsN, List.map_cons, nodup, Bool.and_eq_true] at hnd
    rw [List.find?_cons]
    rcases List.mem_cons.1 hy with rfl | hy
    · rw [Nat.beq_refl]
    · split
      · rename_i hb
        have e := Nat.eq_of_beq_eq_true hb
        have hnone : rnI (acc.map fun y => y.2.1) z.2.1 = none := by
          cases hh : rnI (acc.map fun y => y.2.1) z.2.1 with
          | none => rfl
          | some _ => rw [hh] at hnd; cases hnd.1
        obtain ⟨k, hk⟩ := List.getElem?_of_mem hy
        exact absurd (show (acc.map fun y => y.2.1)[k]? = some z.2.1 by simp [hk, e]) (rnI_none hnone k)
      · exact ih hnd.2 hy

theorem aop_kd {ae : Operand → Option AV} {op : Op} {ty : TypeId} {g : List Prop} {b : Bool} {ob : Oj} (ha : aop T ae op ty = some (g, b, ob)) : ob.kd ≠ .ro false := by
  have key : ∀ k : Kd, (k = .row ∨ k = .blk) → k ≠ .ro false := by rintro k (rfl | rfl) <;> exact fun e => Kd.noConfusion e
  apply key
  unfold aop at ha
  split at ha <;> (repeat' split at ha) <;> first
    | (injection ha with ha; simp only [Prod.mk.injEq] at ha; obtain ⟨_, _, rfl⟩ := ha; first | exact .inl rfl | exact .inr rfl)
    | cases ha
theorem grown_ext (hg : w.grownBy w' none) : Ext w w' := ⟨hg.os, hg.tape, hg.output, hg.size, fun k hk => hg.block k hk (by simp)⟩
theorem stN_ok {s0 : S} {wB : World} (hT : TabOk P T) {ft : FT} (hF : FtOk P (Ext wB) ft) (hs : okS s0 = true) (hgl : GlR bs ρ s0.gl) (hhp : HpR ρ wB s0.H) {st : Ns} (hok : OkN s0.H.length st) {o : Oper} {g : List Prop} {x : Fe} {cnt' : Nat} {dm' : Bool} (h : stN T ft s0 st o = some (g, x, cnt', dm')) (hg : allP g) :
    (st.cnt ≤ cnt' ∧ (st.dm = true → dm' = true) ∧ (match x.nw with | none => pA (ltq s0.H.length) x.av = true | some (i, ob) => s0.H.length ≤ i ∧ i < cnt' ∧ okOb s0.H.length ob = true ∧ pA (ltq1 s0.H.length i) x.av = true ∧ (ob.kd = .ro false → dm' = true))) ∧
    ∀ (a : Act) (w : World), Ext wB w → (∀ t y, Operand.tmp t ∈ o.op.operands.toList → st.fr.lookup t = some y → feR ρ wB y (a.tmps.getD t undef) w) →
      o.wp P a w (fun a' w' => ∃ v, a' = a.put o.dst v ∧ Ext w w' ∧ feR ρ wB x v w') (fun _ _ _ => False) := by
  obtain ⟨dst, op, ty, pos, aft, gd⟩ := o
  have hq : ∀ {p : Pl} {i : Nat}, s0.H.length ≤ i → ∀ j, ltq s0.H.length j = true → upd ρ i p j = ρ j := fun hi j hj => by
    unfold ltq at hj; simp only [decide_eq_true_eq] at hj; exact upd_lt j (by omega)
  unfold stN at h
  simp only at h
  split at h
  · cases h
  · rename_i hnd
    simp only [Bool.and_eq_true, decide_eq_true_eq] at hnd
    obtain ⟨hnd, hmc⟩ := hnd
    generalize hacc : nws (opF op.operands.toList st.fr) op.operands.toList = acc at h hnd
    have hHl : (s0.H ++ padN acc s0.H.length (st.cnt - s0.H.length)).length = st.cnt := by rw [List.length_append, padN_len]; omega
    -- what holds once operands' new objects are placed
    have place : ∀ (a : Act) (w : World), Ext wB w → (∀ t y, Operand.tmp t ∈ op.operands.toList → st.fr.lookup t = some y → feR ρ wB y (a.tmps.getD t undef) w) →
        ∃ ρ1 : Pls, (∀ j, j < s0.H.length → ρ1 j = ρ j) ∧ HpR ρ1 w (s0.H ++ padN acc s0.H.length (st.cnt - s0.H.length)) ∧ (∀ x av, aeN (opF op.operands.toList st.fr) s0.gl x = some av → avR ρ1 av (a.eval x)) ∧
          (∀ y ∈ acc, objR ρ w (ρ1 y.2.1) y.2.2 ∧ (∀ g, objAt (ρ1 y.2.1) y.2.2 g → wB.heap.size ≤ g ∨ y.2.2.kd = .ro false)) := by
      intro a w hX hE
      have hy : ∀ y ∈ acc, ∃ p, objR ρ w p y.2.2 ∧ (∀ g, objAt p y.2.2 g → wB.heap.size ≤ g ∨ y.2.2.kd = .ro false) ∧ ∀ x, st.fr.lookup y.1 = some x → avR (upd ρ y.2.1 p) x.av (a.tmps.getD y.1 undef) := by
        intro y hy
        rw [← hacc] at hy
        obtain ⟨x, h1, h2, h3⟩ := nws_mem hy
        obtain ⟨h4, h5⟩ := opF_lk h2
        have := hE y.1 x h5 h4
        unfold feR at this
        rw [h3] at this
        obtain ⟨p, g1, g2, g3⟩ := this
        exact ⟨p, g1, g2, fun x' hx' => by rw [h4] at hx'; injection hx' with hx'; subst hx'; exact g3⟩
      have hch : ∃ f : Nat × Nat × Oj → Pl, ∀ y ∈ acc, objR ρ w (f y) y.2.2 ∧ (∀ g, objAt (f y) y.2.2 g → wB.heap.size ≤ g ∨ y.2.2.kd = .ro false) ∧ ∀ x, st.fr.lookup y.1 = some x → avR (upd ρ y.2.1 (f y)) x.av (a.tmps.getD y.1 undef) :=
        by classical exact ⟨fun y => if hy' : y ∈ acc then (hy y hy').choose else ⟨none, 0, 0, 0⟩, fun y hy' => by simp only [dif_pos hy']; exact (hy y hy').choose_spec⟩
      obtain ⟨f, hf⟩ := hch
      let ρ1 : Pls := fun j => if j < s0.H.length then ρ j else match acc.find? (fun z => Nat.beq z.2.1 j) with | some y => f y | none => ρ j
      have h1 : ∀ j, j < s0.H.length → ρ1 j = ρ j := fun j hj => if_pos hj
      have hge : ∀ y ∈ acc, s0.H.length ≤ y.2.1 ∧ y.2.1 < st.cnt ∧ okOb s0.H.length y.2.2 = true := by
        intro y hy'
        rw [← hacc] at hy'
        obtain ⟨x, _, h2, h3⟩ := nws_mem hy'
        obtain ⟨h4, _⟩ := opF_lk h2
        have := hok.2 y.1 x h4
        rw [h3] at this
        exact ⟨this.1, this.2.1, this.2.2.1⟩
      have h2 : ∀ y ∈ acc, ρ1 y.2.1 = f y := fun y hy' => by
        show (if y.2.1 < s0.H.length then _ else _) = _
        rw [if_neg (by have := (hge y hy').1; omega), find_ids hnd hy']
      refine ⟨ρ1, h1, fun j ob hj => ?_, fun x av hx => ?_, fun y hy' => by rw [h2 y hy']; exact ⟨(hf y hy').1, (hf y hy').2.1⟩⟩
      · by_cases hlt : j < s0.H.length
        · rw [List.getElem?_append_left hlt] at hj
          rw [h1 j hlt]
          exact objR_lt h1 (fun hk => ltH_ok (okS_ok hs).2.2 j ob hj hk) (objR_ext (hhp j ob hj) hX)
        · rw [List.getElem?_append_right (by omega)] at hj
          have := padN_at acc s0.H.length hj
          rw [show s0.H.length + (j - s0.H.length) = j by omega] at this
          unfold atN at this
          split at this
          · rename_i y hfy
            have hmem := List.mem_of_find?_eq_some hfy
            have hb := List.find?_some hfy
            have e := Nat.eq_of_beq_eq_true hb
            subst this
            rw [← e, h2 y hmem]
            have hob := (hge y hmem).2.2
            unfold okOb at hob
            simp only [Bool.and_eq_true] at hob
            exact objR_p (q := ltq s0.H.length) (fun i hi => h1 i (by unfold ltq at hi; simpa using hi)) hob.1 (hf y hmem).1
          · subst this; exact True.intro
      · cases x with
        | const c => exact cv_ok hx _
        | func f => injection hx with hx; subst hx; rfl
        | global gg => exact ltA_ok (m := s0.H.length) h1 (ltF_ok (okS_ok hs).2.1 gg av (glk_ok hx hgl).1) (glk_ok hx hgl).2
        | tmp t =>
          simp only [aeN] at hx
          split at hx
          · rename_i y hy'
            injection hx with hx; subst hx
            obtain ⟨h4, h5⟩ := opF_lk hy'
            have he := hE t y h5 h4
            have hk := hok.2 t y h4
            show avR ρ1 y.av (a.tmps.getD t undef)
            unfold feR at he
            cases hn : y.nw with
            | none =>
              rw [hn] at he hk
              exact pA_ok (q := ltq s0.H.length) (fun i hi => h1 i (by unfold ltq at hi; simpa using hi)) hk he
            | some io =>
              obtain ⟨i, ob⟩ := io
              rw [hn] at hk
              have hm : (t, i, ob) ∈ acc := by rw [← hacc]; exact nws_has hy' hn _ h5
              have h6 := (hf _ hm).2.2 y h4
              refine pA_ok (q := ltq1 s0.H.length i) (fun j hj => ?_) hk.2.2.2.1 h6
              unfold ltq1 at hj
              simp only [Bool.or_eq_true, decide_eq_true_eq] at hj
              rcases hj with hj | hj
              · rw [h1 j hj]; exact (upd_lt (ρ := ρ) (m := i) j (by have := hk.1; omega)).symm
              · have e := Nat.eq_of_beq_eq_true hj
                subst e
                rw [h2 _ hm]; exact upd_at.symm
          · cases hx
    have hlow : ∀ {ρ1 : Pls}, (∀ j, j < s0.H.length → ρ1 j = ρ j) → ∀ j, ltq s0.H.length j = true → ρ j = ρ1 j := fun h1 j hj => (h1 j (by unfold ltq at hj; simpa using hj)).symm
    have h1q : ∀ {i : Nat} {ρ1 : Pls} {p : Pl}, s0.H.length ≤ i → (∀ j, j < s0.H.length → ρ1 j = ρ j) → ρ1 i = p → ∀ j, ltq1 s0.H.length i j = true → upd ρ i p j = ρ1 j := fun hi h1 hp j hj => by
      unfold ltq1 at hj
      simp only [Bool.or_eq_true, decide_eq_true_eq] at hj
      rcases hj with hj | hj
      · rw [h1 j hj, upd_lt j (by omega)]
      · have e := Nat.eq_of_beq_eq_true hj
        subst e; rw [upd_at, hp]
    have accOk : ∀ y ∈ acc, s0.H.length ≤ y.2.1 ∧ y.2.1 < st.cnt ∧ okOb s0.H.length y.2.2 = true ∧ (y.2.2.kd = .ro false → st.dm = true) := by
      intro y hy'
      rw [← hacc] at hy'
      obtain ⟨x, _, h2, h3⟩ := nws_mem hy'
      obtain ⟨h4, _⟩ := opF_lk h2
      have := hok.2 y.1 x h4
      rw [h3] at this
      exact ⟨this.1, this.2.1, this.2.2.1, this.2.2.2.2⟩
    have newOk : ∀ (z : AV) (l : List (Nat × Nat × Oj)) (nw : Option (Nat × Oj)), newOf s0.H.length z l = some nw → match nw with | none => pA (ltq s0.H.length) z = true | some (i, ob) => pA (ltq1 s0.H.length i) z = true ∧ ∃ t, (t, i, ob) ∈ l := by
      intro z l
      induction l with
      | nil =>
        intro nw hn
        simp only [newOf] at hn
        split at hn
        · injection hn with hn; subst hn; assumption
        · cases hn
      | cons y l ih =>
        intro nw hn
        simp only [newOf] at hn
        split at hn
        · injection hn with hn; subst hn; assumption
        · split at hn
          · rename_i hp
            injection hn with hn; subst hn
            exact ⟨hp, y.1, List.mem_cons_self⟩
          · have := ih nw hn
            cases nw with
            | none => exact this
            | some io => obtain ⟨i, ob⟩ := io; exact ⟨this.1, this.2.imp fun t ht => List.mem_cons_of_mem _ ht⟩
    split at h
    · rename_i g' z hv
      split at h
      · rename_i nw hnw
        injection h with h; simp only [Prod.mk.injEq] at h; obtain ⟨rfl, rfl, rfl, rfl⟩ := h
        have hno := newOk z acc nw hnw
        refine ⟨⟨Nat.le_refl _, fun h => h, ?_⟩, fun a w hX hE => ?_⟩
        · cases nw with
          | none => exact hno
          | some io =>
            obtain ⟨i, ob⟩ := io
            obtain ⟨h1, t, ht⟩ := hno
            obtain ⟨k1, k2, k3, k4⟩ := accOk _ ht
            exact ⟨k1, k2, k3, h1, k4⟩
        · obtain ⟨ρ1, h1, hH, hae, hal⟩ := place a w hX hE
          obtain ⟨u, hr, hu⟩ := vop_ok hT hH hae hv hg dst ty pos aft gd
          unfold Oper.wp
          rw [hr]
          refine ⟨u, rfl, Below.refl _ _, ?_⟩
          unfold feR
          cases nw with
          | none => exact pA_ok (hlow h1) hno hu
          | some io =>
            obtain ⟨i, ob⟩ := io
            obtain ⟨h3, t, ht⟩ := hno
            obtain ⟨k1, k2, k3, k4⟩ := accOk _ ht
            exact ⟨ρ1 i, (hal _ ht).1, (hal _ ht).2, pA_ok (h1q k1 h1 rfl) h3 hu⟩
      · cases h
    · split at h
      · rename_i g' b ob ha
        split at h
        · rename_i hob
          injection h with h; simp only [Prod.mk.injEq] at h; obtain ⟨rfl, rfl, rfl, rfl⟩ := h
          have hob' := hob
          unfold okOb at hob'
          simp only [Bool.and_eq_true] at hob'
          have hkr : ob.kd ≠ .ro false := aop_kd ha
          refine ⟨⟨Nat.le_succ _, fun h => h, hmc, Nat.lt_succ_self _, hob, ?_, fun e => absurd e hkr⟩, fun a w hX hE => ?_⟩
          · cases b <;> simp [pA, pC, ltq1]
          · obtain ⟨ρ1, h1, hH, hae, hal⟩ := place a w hX hE
            obtain ⟨u, w', p, hr, hgr, hn1, hn2, hn3, hn4⟩ := aop_ok (w := w) hT hae ha hg dst pos aft gd
            unfold Oper.wp
            rw [hr]
            refine ⟨u, rfl, grown_ext hgr, p, objR_p (hlow h1) hob'.1 hn1, fun g hat => .inl (Nat.le_trans hX.size (hn2 g hat)), ?_⟩
            cases b with
            | true =>
              obtain ⟨k1, ad, k2, rfl⟩ := hn3 rfl
              show clR _ (.pt _ 0) _
              exact ⟨by rw [upd_at]; exact k1, ad, by rw [upd_at]; exact k2, by simp [Addr.add]⟩
            | false =>
              show clR _ (.wh _) _
              simp only [clR, upd_at]
              exact hn4 rfl
        · cases h
      · rename_i hv1 _ hv2
        clear hv1 hv2
        cases op with
        | call c =>
          obtain ⟨callee, args, argTypes⟩ := c
          cases callee with
          | value fo =>
            cases fo with
            | func f =>
              simp only at h
              split at h
              · rename_i F vs hf hvs
                obtain ⟨hct, fn, hfn, hname, hbody⟩ := hF f F hf
                split at h
                · rename_i g' av objs hFr
                  have hrun : ∀ (a : Act) (w : World), (execOp a.eval ⟨dst, .call { callee := .value (.func f), args := args, argTypes := argTypes }, ty, pos, aft, gd⟩).run P w = .ok (.enter f (args.toList.map a.eval).toArray) w := by
                    intro a w
                    have hname' : ¬ fn.name = "runtime.NumGoroutine" := by simpa using hname
                    have hb' : ¬ fn.body = none := fun h0 => by rw [h0] at hbody; cases hbody
                    have e : (args.toList.map a.eval).toArray = args.map a.eval := by apply Array.ext'; simp
                    rw [e]
                    simp [execOp, resolve, invoke, callFunc, Deferred.ofValue, Act.eval, hfn, hname', hb']
                  split at h
                  · split at h
                    · rename_i hp
                      injection h with h; simp only [Prod.mk.injEq] at h; obtain ⟨rfl, rfl, rfl, rfl⟩ := h
                      refine ⟨⟨Nat.le_refl _, fun h => h, hp⟩, fun a w hX hE => ?_⟩
                      obtain ⟨ρ1, h1, hH, hae, hal⟩ := place a w hX hE
                      have hc := hct vs _ _ av [] hFr hg ρ1 w (args.toList.map a.eval) hX hH (evs_ok hae hvs)
                      unfold Oper.wp
                      rw [hrun]
                      refine hc.mono fun e w' ⟨v, he, hx, ps, hL⟩ => ?_
                      subst he
                      refine ⟨v, rfl, hx, ?_⟩
                      show avR ρ av v
                      refine pA_ok (q := ltq s0.H.length) (fun j hj => ?_) hp hL.val
                      unfold ltq at hj
                      simp only [decide_eq_true_eq] at hj
                      rw [updL_lt j (by rw [hHl]; omega), h1 j hj]
                    · cases h
                  · rename_i ob
                    split at h
                    · rename_i hp
                      simp only [Bool.and_eq_true] at hp
                      have hob := hp.1
                      unfold okOb at hob
                      simp only [Bool.and_eq_true] at hob
                      injection h with h; simp only [Prod.mk.injEq] at h; obtain ⟨rfl, rfl, rfl, rfl⟩ := h
                      refine ⟨⟨Nat.le_succ _, fun h => by rw [h]; rfl, hmc, Nat.lt_succ_self _, hp.1, hp.2, fun e => by simp [hasRo, e]⟩, fun a w hX hE => ?_⟩
                      obtain ⟨ρ1, h1, hH, hae, hal⟩ := place a w hX hE
                      have hc := hct vs _ _ av [ob] hFr hg ρ1 w (args.toList.map a.eval) hX hH (evs_ok hae hvs)
                      unfold Oper.wp
                      rw [hrun]
                      refine hc.mono fun e w' ⟨v, he, hx, ps, hL⟩ => ?_
                      subst he
                      obtain ⟨p, rfl⟩ : ∃ p, ps = [p] := by
                        have := hL.len
                        cases ps with
                        | nil => simp at this
                        | cons p l => cases l with
                          | nil => exact ⟨p, rfl⟩
                          | cons _ _ => simp at this
                      have hU : ∀ j, j < s0.H.length → updL ρ1 (s0.H ++ padN acc s0.H.length (st.cnt - s0.H.length)).length [p] j = ρ j := fun j hj => by
                        rw [updL_lt j (by rw [hHl]; omega), h1 j hj]
                      refine ⟨v, rfl, hx, p, objR_p (hlow hU) hob.1 (hL.obj 0 ob p rfl rfl), fun g hat => ?_, ?_⟩
                      · rcases hL.place 0 ob p g rfl rfl hat with h5 | h5
                        · exact .inl (Nat.le_trans hX.size h5)
                        · exact .inr h5
                      · refine pA_ok (h1q hmc hU ?_) hp.2 hL.val
                        have := updL_at (ρ := ρ1) (m := (s0.H ++ padN acc s0.H.length (st.cnt - s0.H.length)).length) (ps := [p]) (k := 0) (p := p) rfl
                        rw [Nat.add_zero, hHl] at this
                        rw [hHl]; exact this
                    · cases h
                  · cases h
                · cases h
              · cases h
            | _ => simp at h
          | _ => simp at h
        | _ => simp at h
end
end Go.Sx
