import Derived.Test.YtamddohbpdbdmaaDoorZ1
import Derived.Test.YtamddohbpdbdmaaDoorProg
section
set_option linter.unusedVariables false
set_option linter.unusedSimpArgs false
namespace Go.Sx
open Go.RowKit Go.Ch
section
variable {P : Program} {T : Tab} {ft : Nat → FT} {ρ ρ' : Pls} {w w' : World} {bs : Bs} {w0 : World} {s s' : S} {a : Act} {N m : Nat}
def pC (q : Nat → Bool) : Cl → Bool
  | .wh i => q i
  | .sl i _ _ => q i
  | .pt i _ => q i
  | _ => true
def pL (q : Nat → Bool) : List Cl → Bool
  | [] => true
  | c :: l => pC q c && pL q l
def pX (q : Nat → Bool) : Cs → Bool
  | .c l => pL q l
  | _ => true
def p1 (q : Nat → Bool) : A1 → Bool
  | .c x => pC q x
  | .g _ cs => pX q cs
def p1s (q : Nat → Bool) : List A1 → Bool
  | [] => true
  | x :: l => p1 q x && p1s q l
def pA (q : Nat → Bool) : AV → Bool
  | .c x => pC q x
  | .g _ cs => pX q cs
  | .t xs => p1s q xs
variable {q : Nat → Bool}
theorem pC_ok (hρ : ∀ i, q i = true → ρ' i = ρ i) {c : Cl} (h : pC q c = true) {v : Value} (hv : clR ρ c v) : clR ρ' c v := by
  cases c with
  | wh i => simp only [pC] at h; simp only [clR, hρ i h] at hv ⊢; exact hv
  | sl i lo n => simp only [pC] at h; simp only [clR, hρ i h] at hv ⊢; exact hv
  | pt i off => simp only [pC] at h; simp only [clR, hρ i h] at hv ⊢; exact hv
  | s x => exact hv
  | nils => exact hv
  | junk => exact hv
theorem pL_mem : ∀ {l : List Cl}, pL q l = true → ∀ c ∈ l, pC q c = true
  | [], _, c, hc => by cases hc
  | x :: l, h, c, hc => by
    simp only [pL, Bool.and_eq_true] at h
    rcases List.mem_cons.1 hc with rfl | hc
    · exact h.1
    · exact pL_mem h.2 c hc
theorem pX_ok (hρ : ∀ i, q i = true → ρ' i = ρ i) {cs : Cs} (h : pX q cs = true) {vs : List Value} (hv : csR ρ cs vs) : csR ρ' cs vs := by
  cases cs with
  | c l => exact F2.mono hv (fun c hc v hr => pC_ok hρ (pL_mem h c hc) hr)
  | b l => exact csR_b.2 (csR_b.1 hv)
  | w l => exact csR_w.2 (csR_w.1 hv)
  | q l => exact csR_q.2 (csR_q.1 hv)
  | z l => exact csR_z.2 (csR_z.1 hv)
theorem p1_ok (hρ : ∀ i, q i = true → ρ' i = ρ i) {x : A1} (h : p1 q x = true) {v : Value} (hv : a1R ρ x v) : a1R ρ' x v := by
  cases x with
  | c x => exact pC_ok hρ h hv
  | g n cs => obtain ⟨vs, hc, hn, he⟩ := hv; exact ⟨vs, pX_ok hρ h hc, hn, he⟩
theorem p1s_mem : ∀ {l : List A1}, p1s q l = true → ∀ c ∈ l, p1 q c = true
  | [], _, c, hc => by cases hc
  | x :: l, h, c, hc => by
    simp only [p1s, Bool.and_eq_true] at h
    rcases List.mem_cons.1 hc with rfl | hc
    · exact h.1
    · exact p1s_mem h.2 c hc
theorem pA_ok (hρ : ∀ i, q i = true → ρ' i = ρ i) {x : AV} (h : pA q x = true) {v : Value} (hv : avR ρ x v) : avR ρ' x v := by
  cases x with
  | c x => exact pC_ok hρ h hv
  | g n cs => obtain ⟨vs, hc, hn, he⟩ := hv; exact ⟨vs, pX_ok hρ h hc, hn, he⟩
  | t xs => obtain ⟨vs, hc, he⟩ := hv; exact ⟨vs, F2.mono hc (fun c hc v hr => p1_ok hρ (p1s_mem h c hc) hr), he⟩
theorem objR_p (hρ : ∀ i, q i = true → ρ' i = ρ i) {p : Pl} {o : Oj} (h : pX q o.cs = true) (hv : objR ρ w p o) : objR ρ' w p o := by
  unfold objR at hv ⊢
  cases hk : o.kd with
  | dead => exact True.intro
  | ro fs => simp only [hk] at hv ⊢; obtain ⟨h0, h1, vs, hc, hA⟩ := hv; exact ⟨h0, h1, vs, pX_ok hρ h hc, hA⟩
  | row => simp only [hk] at hv ⊢; obtain ⟨h0, vs, hc, hA⟩ := hv; exact ⟨h0, vs, pX_ok hρ h hc, hA⟩
  | blk => simp only [hk] at hv ⊢; obtain ⟨h0, b, vs, hA, hc, hB⟩ := hv; exact ⟨h0, b, vs, hA, pX_ok hρ h hc, hB⟩
def ltq (m : Nat) : Nat → Bool := fun j => decide (j < m)
def ltq1 (m i : Nat) : Nat → Bool := fun j => decide (j < m) || Nat.beq j i
structure Fe where
  av : AV
  nw : Option (Nat × Oj)
def feR (ρ : Pls) (w0 : World) (x : Fe) (v : Value) (w : World) : Prop := match x.nw with
  | none => avR ρ x.av v
  | some (i, o) => ∃ p, objR ρ w p o ∧ (∀ g, objAt p o g → w0.heap.size ≤ g ∨ o.kd = .ro false) ∧ avR (upd ρ i p) x.av v
theorem objR_ext {p : Pl} {o : Oj} (h : objR ρ w p o) (hx : Ext w w') : objR ρ w' p o := h.keep fun g hlt _ => hx.block g hlt
theorem feR_ext {x : Fe} {v : Value} (hx : Ext w w') (h : feR ρ w0 x v w) : feR ρ w0 x v w' := by
  unfold feR at h ⊢
  cases hn : x.nw with
  | none => simp only [hn] at h ⊢; exact h
  | some io => obtain ⟨i, o⟩ := io; simp only [hn] at h ⊢; obtain ⟨p, h1, h2, h3⟩ := h; exact ⟨p, objR_ext h1 hx, h2, h3⟩
abbrev FrN := List (Nat × Fe)
def aeN (fr : FrN) (gl : Fr) : Operand → Option AV
  | .tmp t => match fr.lookup t with | some x => some x.av | none => none
  | .const v => cv v
  | .global g => glk gl g
  | .func f => some (.c (.s (.v (.func (.func f) #[] #[]))))
def nws (fr : FrN) : List Operand → List (Nat × Nat × Oj)
  | [] => []
  | .tmp t :: l => (match fr.lookup t with
    | some x => (match x.nw with
      | some (i, o) => (match (nws fr l).any (fun y => Nat.beq y.1 t) with | true => nws fr l | false => (t, i, o) :: nws fr l)
      | none => nws fr l)
    | none => nws fr l)
  | _ :: l => nws fr l
def atN (acc : List (Nat × Nat × Oj)) (i : Nat) : Oj := match acc.find? (fun y => Nat.beq y.2.1 i) with | some y => y.2.2 | none => ⟨.dead, 0, 0, 0, .b []⟩
def padN (acc : List (Nat × Nat × Oj)) (m : Nat) : Nat → Hp
  | 0 => []
  | k + 1 => padN acc m k ++ [atN acc (m + k)]
theorem padN_len (acc : List (Nat × Nat × Oj)) (m : Nat) : ∀ k, (padN acc m k).length = k
  | 0 => rfl
  | k + 1 => by simp [padN, padN_len acc m k]
theorem padN_at (acc : List (Nat × Nat × Oj)) (m : Nat) : ∀ {k j : Nat} {o : Oj}, (padN acc m k)[j]? = some o → o = atN acc (m + j)
  | 0, j, o, h => by simp [padN] at h
  | k + 1, j, o, h => by
    simp only [padN] at h
    by_cases hj : j < k
    · rw [List.getElem?_append_left (by rw [padN_len]; exact hj)] at h
      exact padN_at acc m h
    · rw [List.getElem?_append_right (by rw [padN_len]; omega), padN_len] at h
      cases hk : j - k with
      | zero => rw [hk] at h; simp at h; rw [← h, show j = k by omega]
      | succ z => rw [hk] at h; simp at h
structure Ns where
  fr : FrN
  cnt : Nat
  dm : Bool
def putN (fr : FrN) (d : Option Nat) (x : Fe) : FrN := match d with
  | some d => (d, x) :: fr.filter (fun p => !(p.1 == d))
  | none => fr
def idsN (acc : List (Nat × Nat × Oj)) : List Nat := acc.map fun y => y.2.1
def newOf (m : Nat) (z : AV) : List (Nat × Nat × Oj) → Option (Option (Nat × Oj))
  | [] => match pA (ltq m) z with | true => some none | false => none
  | y :: l => match pA (ltq m) z with
    | true => some none
    | false => match pA (ltq1 m y.2.1) z with | true => some (some (y.2.1, y.2.2)) | false => newOf m z l
def okOb (m : Nat) (o : Oj) : Bool := pX (ltq m) o.cs && (match o.kd with | .dead => false | _ => true)
def opF (l : List Operand) (fr : FrN) : FrN := fr.filter fun p => l.any fun x => match x with | .tmp t => Nat.beq t p.1 | _ => false
theorem opF_lk {l : List Operand} {fr : FrN} {t : Nat} {x : Fe} (h : (opF l fr).lookup t = some x) : fr.lookup t = some x ∧ Operand.tmp t ∈ l := by
  unfold opF at h
  induction fr with
  | nil => simp at h
  | cons p fr ih =>
    obtain ⟨k, z⟩ := p
    rw [List.filter_cons] at h
    split at h
    · rename_i hk
      rw [List.lookup_cons] at h ⊢
      split at h
      · rename_i e
        have e2 : t = k := by simpa using e
        subst e2
        obtain ⟨y, hy, hy2⟩ := List.any_eq_true.1 hk
        cases y with
        | tmp t2 => have := Nat.eq_of_beq_eq_true hy2; simp only at this; subst this; exact ⟨h, hy⟩
        | _ => cases hy2
      · exact ih h
    · rename_i hk
      obtain ⟨h1, h2⟩ := ih h
      refine ⟨?_, h2⟩
      rw [List.lookup_cons]
      split
      · rename_i e
        have e2 : t = k := by simpa using e
        subst e2
        exact absurd (List.any_eq_true.2 ⟨_, h2, Nat.beq_refl t⟩) hk
      · exact h1
def stN (T : Tab) (ft : FT) (s0 : S) (st : Ns) (o : Oper) : Option (List Prop × Fe × Nat × Bool) :=
  let m := s0.H.length
  let fr := opF o.op.operands.toList st.fr
  let ae := aeN fr s0.gl
  let acc := nws fr o.op.operands.toList
  let H := s0.H ++ padN acc m (st.cnt - m)
  match nodup (idsN acc) && decide (m ≤ st.cnt) with
  | false => none
  | true => match vop T H ae o.op with
    | some (g, z) => (match newOf m z acc with | some nw => some (g, ⟨z, nw⟩, st.cnt, st.dm) | none => none)
    | none => match aop T ae o.op o.type with
      | some (g, b, ob) => (match okOb m ob with | true => some (g, ⟨if b then .c (.pt st.cnt 0) else .c (.wh st.cnt), some (st.cnt, ob)⟩, st.cnt + 1, st.dm) | false => none)
      | none => match o.op with
        | .call c => (match c.callee with
          | .value (.func f) => (match ft f, evs ae c.args.toList with
            | some F, some vs => (match F vs H with
              | some (g, av, objs) => (match objs with
                | [] => (match pA (ltq m) av with | true => some (g, ⟨av, none⟩, st.cnt, st.dm) | false => none)
                | [ob] => (match okOb m ob && pA (ltq1 m st.cnt) av with | true => some (g, ⟨av, some (st.cnt, ob)⟩, st.cnt + 1, st.dm || hasRo [ob]) | false => none)
                | _ => none)
              | none => none)
            | _, _ => none)
          | _ => none)
        | _ => none
def OkN (m : Nat) (st : Ns) : Prop := m ≤ st.cnt ∧ ∀ t x, st.fr.lookup t = some x → match x.nw with
  | none => pA (ltq m) x.av = true
  | some (i, o) => m ≤ i ∧ i < st.cnt ∧ okOb m o = true ∧ pA (ltq1 m i) x.av = true ∧ (o.kd = .ro false → st.dm = true)
theorem nws_mem {fr : FrN} : ∀ {l : List Operand} {y : Nat × Nat × Oj}, y ∈ nws fr l → ∃ x, Operand.tmp y.1 ∈ l ∧ fr.lookup y.1 = some x ∧ x.nw = some (y.2.1, y.2.2)
  | [], y, h => by simp [nws] at h
  | .tmp t :: l, y, h => by
    have rec_ : y ∈ nws fr l → ∃ x, Operand.tmp y.1 ∈ Operand.tmp t :: l ∧ fr.lookup y.1 = some x ∧ x.nw = some (y.2.1, y.2.2) := fun h => by
      obtain ⟨x, h1, h2, h3⟩ := nws_mem h; exact ⟨x, List.mem_cons_of_mem _ h1, h2, h3⟩
    simp only [nws] at h
    split at h
    · rename_i x hx
      split at h
      · rename_i i o hio
        split at h
        · exact rec_ h
        · rcases List.mem_cons.1 h with rfl | h
          · exact ⟨x, by simp, hx, hio⟩
          · exact rec_ h
      · exact rec_ h
    · exact rec_ h
  | .const c :: l, y, h => by obtain ⟨x, h1, h2, h3⟩ := nws_mem (l := l) (by simpa [nws] using h); exact ⟨x, List.mem_cons_of_mem _ h1, h2, h3⟩
  | .global c :: l, y, h => by obtain ⟨x, h1, h2, h3⟩ := nws_mem (l := l) (by simpa [nws] using h); exact ⟨x, List.mem_cons_of_mem _ h1, h2, h3⟩
  | .func c :: l, y, h => by obtain ⟨x, h1, h2, h3⟩ := nws_mem (l := l) (by simpa [nws] using h); exact ⟨x, List.mem_cons_of_mem _ h1, h2, h3⟩
theorem nws_has {fr : FrN} {t i : Nat} {o : Oj} {x : Fe} (hx : fr.lookup t = some x) (hn : x.nw = some (i, o)) (l : List Operand) (h : Operand.tmp t ∈ l) : (t, i, o) ∈ nws fr l := by
  induction l with
  | nil => cases h
  | cons y l ih =>
    cases y with
    | const c => simp only [List.mem_cons, reduceCtorEq, false_or] at h; exact ih h
    | global c => simp only [List.mem_cons, reduceCtorEq, false_or] at h; exact ih h
    | func c => simp only [List.mem_cons, reduceCtorEq, false_or] at h; exact ih h
    | tmp t' =>
      by_cases e : t = t'
      · subst e
        simp only [nws, hx, hn]
        split
        · rename_i hany
          obtain ⟨y, hy, hy1⟩ := List.any_eq_true.1 hany
          have e := Nat.eq_of_beq_eq_true hy1
          obtain ⟨x', _, hx', hn'⟩ := nws_mem hy
          rw [e, hx] at hx'; injection hx' with hx'; subst hx'
          rw [hn] at hn'; injection hn' with hn'
          obtain ⟨y1, y2, y3⟩ := y
          simp only [Prod.mk.injEq] at hn' e
          obtain ⟨rfl, rfl⟩ := hn'
          subst e; exact hy
        · exact List.mem_cons_self
      · have h' : Operand.tmp t ∈ l := by
          rcases List.mem_cons.1 h with e2 | h2
          · injection e2 with e2; exact absurd e2 e
          · exact h2
        have h3 := ih h'
        simp only [nws]
        split
        · split
          · split
            · exact h3
            · exact List.mem_cons_of_mem _ h3
          · exact h3
        · exact h3
theorem find_ids {acc : List (Nat × Nat × Oj)} (hnd : nodup (idsN acc) = true) {y : Nat × Nat × Oj} (hy : y ∈ acc) : acc.find? (fun z => Nat.beq z.2.1 y.2.1) = some y := by
  induction acc with
  | nil => cases hy
  | cons z acc ih =>
    simp only [idsN, List.map_cons, nodup, Bool.and_eq_true] at hnd
    rw [List.find?_cons]
    rcases List.mem_cons.1 hy with rfl | hy
    · rw [Nat.beq_refl]
    · split
      · rename_i hb
        have e := Nat.eq_of_beq_eq_true hb
        have hnone : rnI (acc.map fun y => y.2.1) z.2.1 = none := by
          cases hh : rnI (acc.map fun y => y.2.1) z.2.1 with
          | none => rfl
          | some _ => rw [hh] at hnd; cases hnd.1
        obtain ⟨k, hk⟩ := List.getElem?_of_mem hy
        exact absurd (show (acc.map fun y => y.2.1)[k]? = some z.2.1 by simp [hk, e]) (rnI_none hnone k)
      · exact ih hnd.2 hy
theorem aop_kd {ae : Operand → Option AV} {op : Op} {ty : TypeId} {g : List Prop} {b : Bool} {ob : Oj} (ha : aop T ae op ty = some (g, b, ob)) : ob.kd ≠ .ro false := by
  have key : ∀ k : Kd, (k = .row ∨ k = .blk) → k ≠ .ro false := by rintro k (rfl | rfl) <;> exact fun e => Kd.noConfusion e
  apply key
  unfold aop at ha
  split at ha <;> (repeat' split at ha) <;> first
    | (injection ha with ha; simp only [Prod.mk.injEq] at ha; obtain ⟨_, _, rfl⟩ := ha; first | exact .inl rfl | exact .inr rfl)
    | cases ha
theorem grown_ext (hg : w.grownBy w' none) : Ext w w' := ⟨hg.os, hg.tape, hg.output, hg.size, fun k hk => hg.block k hk (by simp)⟩
theorem stN_ok {s0 : S} {wB : World} (hT : TabOk P T) {ft : FT} (hF : FtOk P (Ext wB) ft) (hs : okS s0 = true) (hgl : GlR bs ρ s0.gl) (hhp : HpR ρ wB s0.H) {st : Ns} (hok : OkN s0.H.length st) {o : Oper} {g : List Prop} {x : Fe} {cnt' : Nat} {dm' : Bool} (h : stN T ft s0 st o = some (g, x, cnt', dm')) (hg : allP g) :
    (st.cnt ≤ cnt' ∧ (st.dm = true → dm' = true) ∧ (match x.nw with | none => pA (ltq s0.H.length) x.av = true | some (i, ob) => s0.H.length ≤ i ∧ i < cnt' ∧ okOb s0.H.length ob = true ∧ pA (ltq1 s0.H.length i) x.av = true ∧ (ob.kd = .ro false → dm' = true))) ∧
    ∀ (a : Act) (w : World), Ext wB w → (∀ t y, Operand.tmp t ∈ o.op.operands.toList → st.fr.lookup t = some y → feR ρ wB y (a.tmps.getD t undef) w) →
      o.wp P a w (fun a' w' => ∃ v, a' = a.put o.dst v ∧ Ext w w' ∧ feR ρ wB x v w') (fun _ _ _ => False) := by
  obtain ⟨dst, op, ty, pos, aft, gd⟩ := o
  have hq : ∀ {p : Pl} {i : Nat}, s0.H.length ≤ i → ∀ j, ltq s0.H.length j = true → upd ρ i p j = ρ j := fun hi j hj => by
    unfold ltq at hj; simp only [decide_eq_true_eq] at hj; exact upd_lt j (by omega)
  unfold stN at h
  simp only at h
  split at h
  · cases h
  · rename_i hnd
    simp only [Bool.and_eq_true, decide_eq_true_eq] at hnd
    obtain ⟨hnd, hmc⟩ := hnd
    generalize hacc : nws (opF op.operands.toList st.fr) op.operands.toList = acc at h hnd
    have hHl : (s0.H ++ padN acc s0.H.length (st.cnt - s0.H.length)).length = st.cnt := by rw [List.length_append, padN_len]; omega
    -- what holds once operands' new objects are placed
    have place : ∀ (a : Act) (w : World), Ext wB w → (∀ t y, Operand.tmp t ∈ op.operands.toList → st.fr.lookup t = some y → feR ρ wB y (a.tmps.getD t undef) w) →
        ∃ ρ1 : Pls, (∀ j, j < s0.H.length → ρ1 j = ρ j) ∧ HpR ρ1 w (s0.H ++ padN acc s0.H.length (st.cnt - s0.H.length)) ∧ (∀ x av, aeN (opF op.operands.toList st.fr) s0.gl x = some av → avR ρ1 av (a.eval x)) ∧
          (∀ y ∈ acc, objR ρ w (ρ1 y.2.1) y.2.2 ∧ (∀ g, objAt (ρ1 y.2.1) y.2.2 g → wB.heap.size ≤ g ∨ y.2.2.kd = .ro false)) := by
      intro a w hX hE
      have hy : ∀ y ∈ acc, ∃ p, objR ρ w p y.2.2 ∧ (∀ g, objAt p y.2.2 g → wB.heap.size ≤ g ∨ y.2.2.kd = .ro false) ∧ ∀ x, st.fr.lookup y.1 = some x → avR (upd ρ y.2.1 p) x.av (a.tmps.getD y.1 undef) := by
        intro y hy
        rw [← hacc] at hy
        obtain ⟨x, h1, h2, h3⟩ := nws_mem hy
        obtain ⟨h4, h5⟩ := opF_lk h2
        have := hE y.1 x h5 h4
        unfold feR at this
        rw [h3] at this
        obtain ⟨p, g1, g2, g3⟩ := this
        exact ⟨p, g1, g2, fun x' hx' => by rw [h4] at hx'; injection hx' with hx'; subst hx'; exact g3⟩
      have hch : ∃ f : Nat × Nat × Oj → Pl, ∀ y ∈ acc, objR ρ w (f y) y.2.2 ∧ (∀ g, objAt (f y) y.2.2 g → wB.heap.size ≤ g ∨ y.2.2.kd = .ro false) ∧ ∀ x, st.fr.lookup y.1 = some x → avR (upd ρ y.2.1 (f y)) x.av (a.tmps.getD y.1 undef) :=
        by classical exact ⟨fun y => if hy' : y ∈ acc then (hy y hy').choose else ⟨none, 0, 0, 0⟩, fun y hy' => by simp only [dif_pos hy']; exact (hy y hy').choose_spec⟩
      obtain ⟨f, hf⟩ := hch
      let ρ1 : Pls := fun j => if j < s0.H.length then ρ j else match acc.find? (fun z => Nat.beq z.2.1 j) with | some y => f y | none => ρ j
      have h1 : ∀ j, j < s0.H.length → ρ1 j = ρ j := fun j hj => if_pos hj
      have hge : ∀ y ∈ acc, s0.H.length ≤ y.2.1 ∧ y.2.1 < st.cnt ∧ okOb s0.H.length y.2.2 = true := by
        intro y hy'
        rw [← hacc] at hy'
        obtain ⟨x, _, h2, h3⟩ := nws_mem hy'
        obtain ⟨h4, _⟩ := opF_lk h2
        have := hok.2 y.1 x h4
        rw [h3] at this
        exact ⟨this.1, this.2.1, this.2.2.1⟩
      have h2 : ∀ y ∈ acc, ρ1 y.2.1 = f y := fun y hy' => by
        show (if y.2.1 < s0.H.length then _ else _) = _
        rw [if_neg (by have := (hge y hy').1; omega), find_ids hnd hy']
      refine ⟨ρ1, h1, fun j ob hj => ?_, fun x av hx => ?_, fun y hy' => by rw [h2 y hy']; exact ⟨(hf y hy').1, (hf y hy').2.1⟩⟩
      · by_cases hlt : j < s0.H.length
        · rw [List.getElem?_append_left hlt] at hj
          rw [h1 j hlt]
          exact objR_lt h1 (fun hk => ltH_ok (okS_ok hs).2.2 j ob hj hk) (objR_ext (hhp j ob hj) hX)
        · rw [List.getElem?_append_right (by omega)] at hj
          have := padN_at acc s0.H.length hj
          rw [show s0.H.length + (j - s0.H.length) = j by omega] at this
          unfold atN at this
          split at this
          · rename_i y hfy
            have hmem := List.mem_of_find?_eq_some hfy
            have hb := List.find?_some hfy
            have e := Nat.eq_of_beq_eq_true hb
            subst this
            rw [← e, h2 y hmem]
            have hob := (hge y hmem).2.2
            unfold okOb at hob
            simp only [Bool.and_eq_true] at hob
            exact objR_p (q := ltq s0.H.length) (fun i hi => h1 i (by unfold ltq at hi; simpa using hi)) hob.1 (hf y hmem).1
          · subst this; exact True.intro
      · cases x with
        | const c => exact cv_ok hx _
        | func f => injection hx with hx; subst hx; rfl
        | global gg => exact ltA_ok (m := s0.H.length) h1 (ltF_ok (okS_ok hs).2.1 gg av (glk_ok hx hgl).1) (glk_ok hx hgl).2
        | tmp t =>
          simp only [aeN] at hx
          split at hx
          · rename_i y hy'
            injection hx with hx; subst hx
            obtain ⟨h4, h5⟩ := opF_lk hy'
            have he := hE t y h5 h4
            have hk := hok.2 t y h4
            show avR ρ1 y.av (a.tmps.getD t undef)
            unfold feR at he
            cases hn : y.nw with
            | none =>
              rw [hn] at he hk
              exact pA_ok (q := ltq s0.H.length) (fun i hi => h1 i (by unfold ltq at hi; simpa using hi)) hk he
            | some io =>
              obtain ⟨i, ob⟩ := io
              rw [hn] at hk
              have hm : (t, i, ob) ∈ acc := by rw [← hacc]; exact nws_has hy' hn _ h5
              have h6 := (hf _ hm).2.2 y h4
              refine pA_ok (q := ltq1 s0.H.length i) (fun j hj => ?_) hk.2.2.2.1 h6
              unfold ltq1 at hj
              simp only [Bool.or_eq_true, decide_eq_true_eq] at hj
              rcases hj with hj | hj
              · rw [h1 j hj]; exact (upd_lt (ρ := ρ) (m := i) j (by have := hk.1; omega)).symm
              · have e := Nat.eq_of_beq_eq_true hj
                subst e
                rw [h2 _ hm]; exact upd_at.symm
          · cases hx
    have hlow : ∀ {ρ1 : Pls}, (∀ j, j < s0.H.length → ρ1 j = ρ j) → ∀ j, ltq s0.H.length j = true → ρ j = ρ1 j := fun h1 j hj => (h1 j (by unfold ltq at hj; simpa using hj)).symm
    have h1q : ∀ {i : Nat} {ρ1 : Pls} {p : Pl}, s0.H.length ≤ i → (∀ j, j < s0.H.length → ρ1 j = ρ j) → ρ1 i = p → ∀ j, ltq1 s0.H.length i j = true → upd ρ i p j = ρ1 j := fun hi h1 hp j hj => by
      unfold ltq1 at hj
      simp only [Bool.or_eq_true, decide_eq_true_eq] at hj
      rcases hj with hj | hj
      · rw [h1 j hj, upd_lt j (by omega)]
      · have e := Nat.eq_of_beq_eq_true hj
        subst e; rw [upd_at, hp]
    have accOk : ∀ y ∈ acc, s0.H.length ≤ y.2.1 ∧ y.2.1 < st.cnt ∧ okOb s0.H.length y.2.2 = true ∧ (y.2.2.kd = .ro false → st.dm = true) := by
      intro y hy'
      rw [← hacc] at hy'
      obtain ⟨x, _, h2, h3⟩ := nws_mem hy'
      obtain ⟨h4, _⟩ := opF_lk h2
      have := hok.2 y.1 x h4
      rw [h3] at this
      exact ⟨this.1, this.2.1, this.2.2.1, this.2.2.2.2⟩
    have newOk : ∀ (z : AV) (l : List (Nat × Nat × Oj)) (nw : Option (Nat × Oj)), newOf s0.H.length z l = some nw → match nw with | none => pA (ltq s0.H.length) z = true | some (i, ob) => pA (ltq1 s0.H.length i) z = true ∧ ∃ t, (t, i, ob) ∈ l := by
      intro z l
      induction l with
      | nil =>
        intro nw hn
        simp only [newOf] at hn
        split at hn
        · injection hn with hn; subst hn; assumption
        · cases hn
      | cons y l ih =>
        intro nw hn
        simp only [newOf] at hn
        split at hn
        · injection hn with hn; subst hn; assumption
        · split at hn
          · rename_i hp
            injection hn with hn; subst hn
            exact ⟨hp, y.1, List.mem_cons_self⟩
          · have := ih nw hn
            cases nw with
            | none => exact this
            | some io => obtain ⟨i, ob⟩ := io; exact ⟨this.1, this.2.imp fun t ht => List.mem_cons_of_mem _ ht⟩
    split at h
    · rename_i g' z hv
      split at h
      · rename_i nw hnw
        injection h with h; simp only [Prod.mk.injEq] at h; obtain ⟨rfl, rfl, rfl, rfl⟩ := h
        have hno := newOk z acc nw hnw
        refine ⟨⟨Nat.le_refl _, fun h => h, ?_⟩, fun a w hX hE => ?_⟩
        · cases nw with
          | none => exact hno
          | some io =>
            obtain ⟨i, ob⟩ := io
            obtain ⟨h1, t, ht⟩ := hno
            obtain ⟨k1, k2, k3, k4⟩ := accOk _ ht
            exact ⟨k1, k2, k3, h1, k4⟩
        · obtain ⟨ρ1, h1, hH, hae, hal⟩ := place a w hX hE
          obtain ⟨u, hr, hu⟩ := vop_ok hT hH hae hv hg dst ty pos aft gd
          unfold Oper.wp
          rw [hr]
          refine ⟨u, rfl, Below.refl _ _, ?_⟩
          unfold feR
          cases nw with
          | none => exact pA_ok (hlow h1) hno hu
          | some io =>
            obtain ⟨i, ob⟩ := io
            obtain ⟨h3, t, ht⟩ := hno
            obtain ⟨k1, k2, k3, k4⟩ := accOk _ ht
            exact ⟨ρ1 i, (hal _ ht).1, (hal _ ht).2, pA_ok (h1q k1 h1 rfl) h3 hu⟩
      · cases h
    · split at h
      · rename_i g' b ob ha
        split at h
        · rename_i hob
          injection h with h; simp only [Prod.mk.injEq] at h; obtain ⟨rfl, rfl, rfl, rfl⟩ := h
          have hob' := hob
          unfold okOb at hob'
          simp only [Bool.and_eq_true] at hob'
          have hkr : ob.kd ≠ .ro false := aop_kd ha
          refine ⟨⟨Nat.le_succ _, fun h => h, hmc, Nat.lt_succ_self _, hob, ?_, fun e => absurd e hkr⟩, fun a w hX hE => ?_⟩
          · cases b <;> simp [pA, pC, ltq1]
          · obtain ⟨ρ1, h1, hH, hae, hal⟩ := place a w hX hE
            obtain ⟨u, w', p, hr, hgr, hn1, hn2, hn3, hn4⟩ := aop_ok (w := w) hT hae ha hg dst pos aft gd
            unfold Oper.wp
            rw [hr]
            refine ⟨u, rfl, grown_ext hgr, p, objR_p (hlow h1) hob'.1 hn1, fun g hat => .inl (Nat.le_trans hX.size (hn2 g hat)), ?_⟩
            cases b with
            | true =>
              obtain ⟨k1, ad, k2, rfl⟩ := hn3 rfl
              show clR _ (.pt _ 0) _
              exact ⟨by rw [upd_at]; exact k1, ad, by rw [upd_at]; exact k2, by simp [Addr.add]⟩
            | false =>
              show clR _ (.wh _) _
              simp only [clR, upd_at]
              exact hn4 rfl
        · cases h
      · rename_i hv1 _ hv2
        clear hv1 hv2
        cases op with
        | call c =>
          obtain ⟨callee, args, argTypes⟩ := c
          cases callee with
          | value fo =>
            cases fo with
            | func f =>
              simp only at h
              split at h
              · rename_i F vs hf hvs
                obtain ⟨hct, fn, hfn, hname, hbody⟩ := hF f F hf
                split at h
                · rename_i g' av objs hFr
                  have hrun : ∀ (a : Act) (w : World), (execOp a.eval ⟨dst, .call { callee := .value (.func f), args := args, argTypes := argTypes }, ty, pos, aft, gd⟩).run P w = .ok (.enter f (args.toList.map a.eval).toArray) w := by
                    intro a w
                    have hname' : ¬ fn.name = "runtime.NumGoroutine" := by simpa using hname
                    have hb' : ¬ fn.body = none := fun h0 => by rw [h0] at hbody; cases hbody
                    have e : (args.toList.map a.eval).toArray = args.map a.eval := by apply Array.ext'; simp
                    rw [e]
                    simp [execOp, resolve, invoke, callFunc, Deferred.ofValue, Act.eval, hfn, hname', hb']
                  split at h
                  · split at h
                    · rename_i hp
                      injection h with h; simp only [Prod.mk.injEq] at h; obtain ⟨rfl, rfl, rfl, rfl⟩ := h
                      refine ⟨⟨Nat.le_refl _, fun h => h, hp⟩, fun a w hX hE => ?_⟩
                      obtain ⟨ρ1, h1, hH, hae, hal⟩ := place a w hX hE
                      have hc := hct vs _ _ av [] hFr hg ρ1 w (args.toList.map a.eval) hX hH (evs_ok hae hvs)
                      unfold Oper.wp
                      rw [hrun]
                      refine hc.mono fun e w' ⟨v, he, hx, ps, hL⟩ => ?_
                      subst he
                      refine ⟨v, rfl, hx, ?_⟩
                      show avR ρ av v
                      refine pA_ok (q := ltq s0.H.length) (fun j hj => ?_) hp hL.val
                      unfold ltq at hj
                      simp only [decide_eq_true_eq] at hj
                      rw [updL_lt j (by rw [hHl]; omega), h1 j hj]
                    · cases h
                  · rename_i ob
                    split at h
                    · rename_i hp
                      simp only [Bool.and_eq_true] at hp
                      have hob := hp.1
                      unfold okOb at hob
                      simp only [Bool.and_eq_true] at hob
                      injection h with h; simp only [Prod.mk.injEq] at h; obtain ⟨rfl, rfl, rfl, rfl⟩ := h
                      refine ⟨⟨Nat.le_succ _, fun h => by rw [h]; rfl, hmc, Nat.lt_succ_self _, hp.1, hp.2, fun e => by simp [hasRo, e]⟩, fun a w hX hE => ?_⟩
                      obtain ⟨ρ1, h1, hH, hae, hal⟩ := place a w hX hE
                      have hc := hct vs _ _ av [ob] hFr hg ρ1 w (args.toList.map a.eval) hX hH (evs_ok hae hvs)
                      unfold Oper.wp
                      rw [hrun]
                      refine hc.mono fun e w' ⟨v, he, hx, ps, hL⟩ => ?_
                      subst he
                      obtain ⟨p, rfl⟩ : ∃ p, ps = [p] := by
                        have := hL.len
                        cases ps with
                        | nil => simp at this
                        | cons p l => cases l with
                          | nil => exact ⟨p, rfl⟩
                          | cons _ _ => simp at this
                      have hU : ∀ j, j < s0.H.length → updL ρ1 (s0.H ++ padN acc s0.H.length (st.cnt - s0.H.length)).length [p] j = ρ j := fun j hj => by
                        rw [updL_lt j (by rw [hHl]; omega), h1 j hj]
                      refine ⟨v, rfl, hx, p, objR_p (hlow hU) hob.1 (hL.obj 0 ob p rfl rfl), fun g hat => ?_, ?_⟩
                      · rcases hL.place 0 ob p g rfl rfl hat with h5 | h5
                        · exact .inl (Nat.le_trans hX.size h5)
                        · exact .inr h5
                      · refine pA_ok (h1q hmc hU ?_) hp.2 hL.val
                        have := updL_at (ρ := ρ1) (m := (s0.H ++ padN acc s0.H.length (st.cnt - s0.H.length)).length) (ps := [p]) (k := 0) (p := p) rfl
                        rw [Nat.add_zero, hHl] at this
                        rw [hHl]; exact this
                    · cases h
                  · cases h
                · cases h
              · cases h
            | _ => simp at h
          | _ => simp at h
        | _ => simp at h
end
end Go.Sx
end
section
set_option linter.unusedVariables false
set_option linter.unusedSimpArgs false
namespace Go.Sx
open Go.RowKit Go.Ch
section
variable {P : Program} {T : Tab} {ft : Nat → FT} {ρ ρ' : Pls} {w w' : World} {bs : Bs} {w0 wB : World} {s s' : S} {a : Act} {N m : Nat}
def stA2 (T : Tab) (ft : Nat → FT) (N : Nat) (asm : List (Nat × Bool)) (s0 : S) (i : Nat) (o : Oper) (st : Ns) : Option (List Prop × Fe × Nat × Bool) := match dOk N o.dst, stN T (ft i) s0 st o with
  | true, some (g, x, c, d) => (match asm.lookup i with
    | none => some (g, x, c, d)
    | some bv => match x with
      | ⟨.c (.s (.b e)), none⟩ => some (g ++ [e = bv], ⟨.c (.s (.b bv)), none⟩, c, d)
      | _ => none)
  | _, _ => none
def stG2 (T : Tab) (ft : Nat → FT) (N : Nat) (ops : Array Oper) (asm : List (Nat × Bool)) (s0 : S) (i : Nat) (o : Oper) (st : Ns) : Option (Option (List Prop × Fe × Nat × Bool)) := match o.guard with
  | none => (match stA2 T ft N asm s0 i o st with | some r => some (some r) | none => none)
  | some (j, want) => match (ops[j]?).bind (·.dst) with
    | none => none
    | some dj => match st.fr.lookup dj with
      | some ⟨.c (.s (.b b)), none⟩ => (match b == want with
        | true => (match stA2 T ft N asm s0 i o st with | some r => some (some r) | none => none)
        | false => some none)
      | some ⟨.t [], none⟩ => some none
      | _ => none
def frN (T : Tab) (ft : Nat → FT) (N : Nat) (ops : Array Oper) (asm : List (Nat × Bool)) (s0 : S) : Nat → List Oper → Ns → Option (List Prop × Ns)
  | _, [], st => some ([], st)
  | i, o :: rest, st => match stG2 T ft N ops asm s0 i o st with
    | none => none
    | some none => (match dOk N o.dst with | true => frN T ft N ops asm s0 (i + 1) rest ⟨putN st.fr o.dst ⟨.t [], none⟩, st.cnt, st.dm⟩ | false => none)
    | some (some (g, x, c, d)) => match frN T ft N ops asm s0 (i + 1) rest ⟨putN st.fr o.dst x, c, d⟩ with
      | none => none
      | some (g2, st2) => some (g ++ g2, st2)
def FrE (ρ : Pls) (wB : World) (st : Ns) (a : Act) (w : World) : Prop := ∀ t x, st.fr.lookup t = some x → feR ρ wB x (a.tmps.getD t undef) w
theorem lkF {fr : FrN} {d t : Nat} {x : Fe} (h : (fr.filter (fun p => !(p.1 == d))).lookup t = some x) : fr.lookup t = some x ∧ t ≠ d := by
  induction fr with
  | nil => simp at h
  | cons q fr ih =>
    obtain ⟨k, z⟩ := q
    rw [List.filter_cons] at h
    split at h
    · rename_i hk
      have hkd : k ≠ d := by simpa using hk
      rw [List.lookup_cons] at h ⊢
      split at h
      · rename_i e
        have : t = k := by simpa using e
        subst this
        exact ⟨h, hkd⟩
      · exact ih h
    · rename_i hk
      have hkd : k = d := by simpa using hk
      obtain ⟨h1, h2⟩ := ih h
      refine ⟨?_, h2⟩
      rw [List.lookup_cons]
      split
      · rename_i e
        have : t = k := by simpa using e
        subst this; exact absurd hkd h2
      · exact h1
theorem lkPut {fr : FrN} {d : Option Nat} {t : Nat} {x y : Fe} (h : (putN fr d x).lookup t = some y) : (d = some t ∧ y = x) ∨ (d ≠ some t ∧ fr.lookup t = some y) := by
  cases d with
  | none => exact .inr ⟨by simp, h⟩
  | some d =>
    simp only [putN, List.lookup_cons] at h
    split at h
    · rename_i e
      have : t = d := by simpa using e
      subst this
      injection h with h; exact .inl ⟨rfl, h.symm⟩
    · obtain ⟨h1, h2⟩ := lkF h
      exact .inr ⟨by simpa using fun e => h2 e.symm, h1⟩
theorem stA2_ok (hT : TabOk P T) (hF : ∀ i, FtOk P (Ext wB) (ft i)) {asm : List (Nat × Bool)} {s0 : S} (hs : okS s0 = true) (hgl : GlR bs ρ s0.gl) (hhp : HpR ρ wB s0.H) {st : Ns} (hok : OkN s0.H.length st) {i : Nat} {o : Oper} {g : List Prop} {x : Fe} {c : Nat} {d : Bool} (h : stA2 T ft N asm s0 i o st = some (g, x, c, d)) (hg : allP g) :
    dOk N o.dst = true ∧ (st.cnt ≤ c ∧ (st.dm = true → d = true) ∧ (match x.nw with | none => pA (ltq s0.H.length) x.av = true | some (i, ob) => s0.H.length ≤ i ∧ i < c ∧ okOb s0.H.length ob = true ∧ pA (ltq1 s0.H.length i) x.av = true ∧ (ob.kd = .ro false → d = true))) ∧
    ∀ (a : Act) (w : World), Ext wB w → (∀ t y, Operand.tmp t ∈ o.op.operands.toList → st.fr.lookup t = some y → feR ρ wB y (a.tmps.getD t undef) w) →
      o.wp P a w (fun a' w' => ∃ v, a' = a.put o.dst v ∧ Ext w w' ∧ feR ρ wB x v w') (fun _ _ _ => False) := by
  unfold stA2 at h
  split at h
  · rename_i g1 x1 c1 d1 hd h1
    refine ⟨hd, ?_⟩
    split at h
    · injection h with h; simp only [Prod.mk.injEq] at h; obtain ⟨rfl, rfl, rfl, rfl⟩ := h
      exact stN_ok hT (hF i) hs hgl hhp hok h1 hg
    · split at h
      · rename_i bv _ e
        injection h with h; simp only [Prod.mk.injEq] at h; obtain ⟨rfl, rfl, rfl, rfl⟩ := h
        obtain ⟨ga, gb⟩ := allP_append.1 hg
        simp only [allP] at gb
        have := stN_ok hT (hF i) hs hgl hhp hok h1 ga
        rw [gb] at this
        exact this
      · cases h
  · cases h
def frI (fr : Fr) : FrN := fr.map fun p => (p.1, ⟨p.2, none⟩)
theorem frI_lk {fr : Fr} {t : Nat} {x : Fe} (h : (frI fr).lookup t = some x) : x.nw = none ∧ fr.lookup t = some x.av := by
  induction fr with
  | nil => simp [frI] at h
  | cons q fr ih =>
    obtain ⟨k, z⟩ := q
    simp only [frI, List.map_cons, List.lookup_cons] at h ⊢
    split at h
    · injection h with h; subst h; exact ⟨rfl, rfl⟩
    · exact ih h
theorem RW_fr (hT : TabOk P T) (hF : ∀ i, FtOk P (Ext wB) (ft i)) {asm : List (Nat × Bool)} {s0 : S} (hs : okS s0 = true) (hgl : GlR bs ρ s0.gl) (hhp : HpR ρ wB s0.H) {ops : Array Oper} {Q' : Act → World → Prop} {st' : Ns} (l : List Oper) :
    ∀ (i : Nat) (st : Ns) (E : Nat → Pred) (K : List (Option Tmp × Pred) → Prop) (g : List Prop), frN T ft N ops asm s0 i l st = some (g, st') → allP g → OkN s0.H.length st →
      (∀ t x, st.fr.lookup t = some x → ∀ v w, Ext wB w → E t v w → feR ρ wB x v w) →
      (∀ a w, Ext wB w → a.tmps.size = N → a.defers = [] → OkN s0.H.length st' → FrE ρ wB st' a w → Q' a w) →
      (∀ L, (∀ a w, Ext wB w → a.tmps.size = N → a.defers = [] → FrE ρ wB st a w → Fin Q' L a w) → K L) → RW P ops Ext wB l E K := by
  induction l with
  | nil =>
    intro i st E K g h hg hok _ hQ hK
    injection h with h; simp only [Prod.mk.injEq] at h; obtain ⟨rfl, rfl⟩ := h
    exact hK [] fun a w h1 h2 h3 h4 => hQ a w h1 h2 h3 hok h4
  | cons o rest ih =>
    intro i st E K g h hg hok hE hQ hK
    simp only [frN] at h
    have look : ∀ {t : Nat} {x : Fe}, st.fr.lookup t = some x → ∀ {a : Act} {w : World}, Ext wB w → t ∈ o.looksAt ops → (∀ t ∈ o.looksAt ops, E t (a.tmps.getD t undef) w) → feR ρ wB x (a.tmps.getD t undef) w :=
      fun hx _ _ hX ht hEa => hE _ _ hx _ _ hX (hEa _ ht)
    have opLook : ∀ {t : Nat}, Operand.tmp t ∈ o.op.operands.toList → t ∈ o.looksAt ops := fun hx => List.mem_append_left _ (List.mem_filterMap.2 ⟨.tmp _, by simpa using hx, rfl⟩)
    have gLook : ∀ {j : Nat} {want : Bool} {dj : Nat}, o.guard = some (j, want) → (ops[j]?).bind (·.dst) = some dj → dj ∈ o.looksAt ops := fun hgd hd => by
      unfold Oper.looksAt; rw [hgd]; simp [hd]
    have wnt : ∀ {j : Nat} {want b : Bool} {dj : Nat}, o.guard = some (j, want) → (ops[j]?).bind (·.dst) = some dj → st.fr.lookup dj = some ⟨.c (.s (.b b)), none⟩ → ∀ {a : Act} {w : World}, Ext wB w → (∀ t ∈ o.looksAt ops, E t (a.tmps.getD t undef) w) → Region.wanted o (yielded ops a.tmps) = (b == want) := fun hgd hd hb _ _ hX hEa =>
      wanted_b hgd hd (look hb hX (gLook hgd hd) hEa)
    have skipC : dOk N o.dst = true → (∀ (a : Act) (w : World), Ext wB w → (∀ t ∈ o.looksAt ops, E t (a.tmps.getD t undef) w) → Region.wanted o (yielded ops a.tmps) = false) →
        frN T ft N ops asm s0 (i + 1) rest ⟨putN st.fr o.dst ⟨.t [], none⟩, st.cnt, st.dm⟩ = some (g, st') → RW P ops Ext wB (o :: rest) E K := fun hdk hw h1 => by
      refine ⟨fun v _ => v = undef, fun _ _ _ _ h => h, fun a w hX _ hEa => ?_, ih (i + 1) _ _ _ _ h1 hg ⟨hok.1, fun t x hx => ?_⟩ (fun t x hx v w hX hv => ?_) hQ (fun L hL => hK _ fun a w hX hn hd hFr => fun v hv => hL _ w hX (by rw [put_size]; exact hn) (by rw [put_defers]; exact hd) fun t x hx => ?_)⟩
      · rw [hw a w hX hEa]
        have e : ¬ (false = true) := fun h => Bool.noConfusion h
        rw [if_neg e]
      · rcases lkPut hx with ⟨_, rfl⟩ | ⟨_, h2⟩
        · rfl
        · exact hok.2 t x h2
      · unfold Go.Ch.upd at hv
        rcases lkPut hx with ⟨hd, rfl⟩ | ⟨h2, h3⟩
        · rw [hd] at hv
          have e : (if t = t then (fun v _ => v = undef) else E t) v w := hv
          rw [if_pos rfl] at e
          exact ⟨[], F2.nil, e⟩
        · refine hE t x h3 v w hX ?_
          cases hd : o.dst with
          | none => rw [hd] at hv; exact hv
          | some d => rw [hd] at hv h2; have e : (if t = d then (fun v _ => v = undef) else E t) v w := hv; rw [if_neg (fun e => h2 (by rw [e]))] at e; exact e
      · rcases lkPut hx with ⟨hd2, rfl⟩ | ⟨h2, h3⟩
        · rw [hd2] at hdk ⊢
          rw [getD_put_same a v t (by have := dOk_ok hdk hn t rfl; exact this)]
          exact ⟨[], F2.nil, hv⟩
        · rw [getD_put_other a o.dst v t h2]
          exact hFr t x h3
    have doC : ∀ {g1 g2 : List Prop} {x1 : Fe} {c1 : Nat} {d1 : Bool}, stA2 T ft N asm s0 i o st = some (g1, x1, c1, d1) → g = g1 ++ g2 → (∀ (a : Act) (w : World), Ext wB w → (∀ t ∈ o.looksAt ops, E t (a.tmps.getD t undef) w) → Region.wanted o (yielded ops a.tmps) = true) →
        frN T ft N ops asm s0 (i + 1) rest ⟨putN st.fr o.dst x1, c1, d1⟩ = some (g2, st') → RW P ops Ext wB (o :: rest) E K := fun {g1 g2 x1 c1 d1} hA hge hw h1 => by
      subst hge
      obtain ⟨ga, gb⟩ := allP_append.1 hg
      obtain ⟨hdk, ⟨k1, k2, k3⟩, hwp⟩ := stA2_ok hT hF hs hgl hhp hok hA ga
      refine ⟨fun v w => feR ρ wB x1 v w, fun _ _ _ hX h => feR_ext hX h, fun a w hX _ hEa => ?_, ih (i + 1) _ _ _ _ h1 gb ⟨Nat.le_trans hok.1 k1, fun t x hx => ?_⟩ (fun t x hx v w hX hv => ?_) hQ (fun L hL => hK _ fun a w hX hn hd hFr => fun v hv => hL _ w hX (by rw [put_size]; exact hn) (by rw [put_defers]; exact hd) fun t x hx => ?_)⟩
      · rw [hw a w hX hEa]
        rw [if_pos rfl]; exact hwp a w hX (fun t y hop hy => look hy hX (opLook hop) hEa)
      · rcases lkPut hx with ⟨_, rfl⟩ | ⟨_, h2⟩
        · exact k3
        · have := hok.2 t x h2
          cases hn : x.nw with
          | none => rw [hn] at this; exact this
          | some io => obtain ⟨i', ob⟩ := io; rw [hn] at this; exact ⟨this.1, Nat.lt_of_lt_of_le this.2.1 k1, this.2.2.1, this.2.2.2.1, fun e => k2 (this.2.2.2.2 e)⟩
      · unfold Go.Ch.upd at hv
        rcases lkPut hx with ⟨hd, rfl⟩ | ⟨hd, h2⟩
        · rw [hd] at hv
          have e : (if t = t then (fun v w => feR ρ wB x v w) else E t) v w := hv
          rw [if_pos rfl] at e
          exact e
        · refine hE t x h2 v w hX ?_
          cases hd2 : o.dst with
          | none => rw [hd2] at hv; exact hv
          | some d => rw [hd2] at hv hd; have e : (if t = d then (fun v w => feR ρ wB x1 v w) else E t) v w := hv; rw [if_neg (fun e => hd (by rw [e]))] at e; exact e
      · rcases lkPut hx with ⟨hd2, rfl⟩ | ⟨hd2, h2⟩
        · rw [hd2] at hdk ⊢
          rw [getD_put_same a v t (by have := dOk_ok hdk hn t rfl; exact this)]
          exact hv
        · rw [getD_put_other a o.dst v t hd2]
          exact hFr t x h2
    split at h
    · cases h
    · rename_i hG
      split at h
      · rename_i hdk
        unfold stG2 at hG
        split at hG
        · split at hG <;> cases hG
        · rename_i j want hgd
          split at hG
          · cases hG
          · rename_i dj hdj
            split at hG
            · rename_i b hb
              split at hG
              · split at hG <;> cases hG
              · rename_i hbw
                exact skipC hdk (fun a w hX hEa => by rw [wnt hgd hdj hb hX hEa]; exact hbw) h
            · rename_i hb
              exact skipC hdk (fun a w hX hEa => wanted_u hgd hdj (undef_of (look hb hX (gLook hgd hdj) hEa))) h
            · cases hG
      · cases h
    · rename_i g1 x1 c1 d1 hG
      split at h
      · cases h
      · rename_i g2 st2 h2
        injection h with h; simp only [Prod.mk.injEq] at h; obtain ⟨rfl, rfl⟩ := h
        unfold stG2 at hG
        split at hG
        · rename_i hgd
          split at hG
          · rename_i r hr
            injection hG with hG; injection hG with hG; subst hG
            exact doC hr rfl (fun a w _ _ => by unfold Region.wanted; rw [hgd]) h2
          · cases hG
        · rename_i j want hgd
          split at hG
          · cases hG
          · rename_i dj hdj
            split at hG
            · rename_i b hb
              split at hG
              · rename_i hbw
                split at hG
                · rename_i r hr
                  injection hG with hG; injection hG with hG; subst hG
                  exact doC hr rfl (fun a w hX hEa => by rw [wnt hgd hdj hb hX hEa]; exact hbw) h2
                · cases hG
              · cases hG
            · cases hG
            · cases hG
def ap2 (o o' : Oj) : Bool := (!o.own && !o'.own) || (o.own && o'.own && !(Nat.beq o.e o'.e))
def ap1 (o : Oj) : List Oj → Bool
  | [] => true
  | x :: l => ap2 o x && ap1 o l
def apL : List Oj → Bool
  | [] => true
  | o :: l => ap1 o l && apL l
theorem ap1_ok {o : Oj} : ∀ {l : List Oj}, ap1 o l = true → ∀ (k : Nat) (x : Oj), l[k]? = some x → ap2 o x = true
  | [], _, k, x, h => by simp at h
  | y :: l, h, k, x, hx => by
    simp only [ap1, Bool.and_eq_true] at h
    cases k with
    | zero => simp at hx; subst hx; exact h.1
    | succ k => exact ap1_ok h.2 k x (by simpa using hx)
theorem apL_ok : ∀ {l : List Oj}, apL l = true → ∀ (i j : Nat) (x y : Oj), i < j → l[i]? = some x → l[j]? = some y → ap2 x y = true
  | [], _, i, j, x, y, _, h, _ => by simp at h
  | z :: l, h, i, j, x, y, hij, hx, hy => by
    simp only [apL, Bool.and_eq_true] at h
    cases j with
    | zero => omega
    | succ j =>
      cases i with
      | zero => simp at hx; subst hx; exact ap1_ok h.1 j y (by simpa using hy)
      | succ i => exact apL_ok h.2 i j x y (by omega) (by simpa using hx) (by simpa using hy)
theorem ap_sep {p p' : Pl} {o o' : Oj} {g : Nat} (h : ap2 o o' = true) (h1 : objR ρ w p o) (h2 : objR ρ' w p' o') (ho : o.own = true ∨ o'.own = true) (hat : objAt p o g) (hat' : objAt p' o' g) : False := by
  unfold ap2 at h
  simp only [Bool.or_eq_true, Bool.and_eq_true, Bool.not_eq_true'] at h
  rcases h with ⟨ha, hb⟩ | ⟨⟨ha, hb⟩, hc⟩
  · rcases ho with e | e
    · rw [e] at ha; cases ha
    · rw [e] at hb; cases hb
  · have blk : ∀ {ρ : Pls} {p : Pl} {o : Oj}, objR ρ w p o → o.own = true → objAt p o g → ∃ cur, w.heap[g]? = some (.cells cur o.e (0, 0)) := by
      intro ρ p o hr hown hat
      obtain ⟨ad, hA, hg⟩ : ∃ ad, p.A = some ad ∧ ad.block = g := by
        unfold objAt at hat
        unfold Oj.own at hown
        cases hk : o.kd with
        | dead => rw [hk] at hown; cases hown
        | ro _ => rw [hk] at hown; cases hown
        | row => simpa [hk] using hat
        | blk => simpa [hk] using hat
      obtain ⟨vs, g', cur, _, rfl, hh, _⟩ := own_block hr hown hA
      simp only at hg
      subst hg
      exact ⟨cur, hh⟩
    obtain ⟨c1, e1⟩ := blk h1 ha hat
    obtain ⟨c2, e2⟩ := blk h2 hb hat'
    rw [e1] at e2
    injection e2 with e2
    injection e2 with _ e3
    rw [e3, Nat.beq_refl] at hc
    cases hc
def demK (b : Bool) (o : Oj) : Oj := match b, o.kd with
  | true, .row => ⟨.ro true, o.e, o.sz, o.n, o.cs⟩
  | true, .blk => ⟨.dead, o.e, o.sz, o.n, o.cs⟩
  | _, _ => o
theorem demK_cs (b : Bool) (o : Oj) : (demK b o).cs = o.cs := by unfold demK; split <;> rfl
theorem demK_ok {b : Bool} {o : Oj} {p : Pl} (h : objR ρ w p o) : objR ρ w p (demK b o) := by
  unfold demK
  split
  · rename_i hk
    have h1 := h.slc (.inr hk)
    obtain ⟨h2, h3⟩ := h.read (by rw [hk]; simp)
    exact ⟨h2, h1, h3⟩
  · exact True.intro
  · exact h
theorem demK_at {b : Bool} {o : Oj} {p : Pl} {g : Nat} (h : objAt p (demK b o) g) : objAt p o g := by
  unfold demK at h
  split at h
  · rename_i hk
    unfold objAt at h ⊢
    simp only [hk] at h ⊢
    exact h.2
  · exact absurd h (fun e => e)
  · exact h
theorem demK_ro {b : Bool} {o : Oj} (h : (demK b o).kd = .ro false) : o.kd = .ro false := by
  unfold demK at h
  split at h
  · cases h
  · cases h
  · exact h
def objsN (m j i : Nat) : List Nat := List.range m ++ List.replicate j (i + 1) ++ [i]
theorem objsN_lt {m j i k : Nat} (h : k < m) : (objsN m j i)[k]? = some k := by
  unfold objsN
  rw [List.getElem?_append_left (by simp; omega), List.getElem?_append_left (by simpa using h)]
  simp [h]
theorem objsN_at {m j i : Nat} : (objsN m j i)[m + j]? = some i := by
  unfold objsN
  rw [List.getElem?_append_right (by simp)]
  simp
def asmN (m : Nat) (fr : FrN) : Nat → List (Nat × Bool) → Option (Fr × List Oj)
  | _, [] => some ([], [])
  | j, (t, dmt) :: ks => match fr.lookup t with
    | some ⟨av, some (i, o)⟩ => (match rnA (objsN m j i) av, asmN m fr (j + 1) ks with
      | some y, some (r, os) => (match pA (ltq1 m (m + j)) y with | true => some ((t, y) :: r, demK dmt o :: os) | false => none)
      | _, _ => none)
    | some ⟨av, none⟩ => (match asmN m fr j ks with | some (r, os) => some ((t, av) :: r, os) | none => none)
    | none => none
theorem asmN_ok {st : Ns} {a : Act} {w : World} (hok : OkN m st) : ∀ (ks : List (Nat × Bool)) (j : Nat) (fr : Fr) (os : List Oj), (∀ t x, t ∈ ks.map Prod.fst → st.fr.lookup t = some x → feR ρ wB x (a.tmps.getD t undef) w) → asmN m st.fr j ks = some (fr, os) →
    ∃ ps : List Pl, ps.length = os.length ∧ (∀ (k : Nat) (o : Oj) (p : Pl), os[k]? = some o → ps[k]? = some p → (∀ ρ' : Pls, (∀ i, i < m → ρ' i = ρ i) → objR ρ' w p o) ∧ (∀ g, objAt p o g → wB.heap.size ≤ g ∨ o.kd = .ro false) ∧ (o.kd = .ro false → st.dm = true)) ∧
      ∀ ρ' : Pls, (∀ i, i < m → ρ' i = ρ i) → (∀ (k : Nat) (p : Pl), ps[k]? = some p → ρ' (m + j + k) = p) → FrR ρ' fr a
  | [], j, fr, os, _, h => by
    injection h with h; simp only [Prod.mk.injEq] at h; obtain ⟨rfl, rfl⟩ := h
    exact ⟨[], rfl, fun k o p ho => by simp at ho, fun _ _ _ t x hx => by simp at hx⟩
  | (t, dmt) :: ks, j, fr, os, hE, h => by
    have hE' : ∀ t x, t ∈ ks.map Prod.fst → st.fr.lookup t = some x → feR ρ wB x (a.tmps.getD t undef) w := fun t x ht => hE t x (List.mem_cons_of_mem _ ht)
    simp only [asmN] at h
    split at h
    · rename_i av i o ht
      split at h
      · rename_i y r os' hy hr
        split at h
        · rename_i hp
          injection h with h; simp only [Prod.mk.injEq] at h; obtain ⟨rfl, rfl⟩ := h
          obtain ⟨ps, h1, h2, h3⟩ := asmN_ok hok ks (j + 1) r os' hE' hr
          have hk := hok.2 t _ ht
          simp only at hk
          obtain ⟨k1, k2, k3, k4, k5⟩ := hk
          have he := hE t _ (by simp) ht
          unfold feR at he
          simp only at he
          obtain ⟨p, e1, e2, e3⟩ := he
          have hob := k3
          unfold okOb at hob
          simp only [Bool.and_eq_true] at hob
          refine ⟨p :: ps, by simp [h1], fun k ob q ho hq => ?_, fun ρ' hρ hat t' x hx => ?_⟩
          · cases k with
            | zero =>
              simp at ho hq; subst ho; subst hq
              refine ⟨fun ρ' hρ => ?_, fun g hg => ?_, fun e => k5 (demK_ro e)⟩
              · refine objR_p (q := ltq m) (fun i hi => ?_) (by rw [demK_cs]; exact hob.1) (demK_ok e1)
                unfold ltq at hi; simp only [decide_eq_true_eq] at hi; exact hρ i hi
              · rcases e2 g (demK_at hg) with h5 | h5
                · exact .inl h5
                · refine .inr ?_
                  unfold demK
                  rw [h5]; simp
                  exact h5
            | succ k => exact h2 k ob q (by simpa using ho) (by simpa using hq)
          · rw [List.lookup_cons] at hx
            split at hx
            · rename_i et
              have : t' = t := by simpa using et
              subst this
              injection hx with hx; subst hx
              refine pA_ok (q := ltq1 m (m + j)) (fun i' hi => ?_) hp (rnA_ok hy e3)
              unfold ltq1 at hi
              simp only [Bool.or_eq_true, decide_eq_true_eq] at hi
              rcases hi with hi | hi
              · rw [hρ i' hi, plK_at (objsN_lt hi)]
                exact (upd_lt (ρ := ρ) (m := i) i' (by omega)).symm
              · have e := Nat.eq_of_beq_eq_true hi
                subst e
                rw [plK_at objsN_at, upd_at]
                have := hat 0 p rfl
                simpa using this
            · exact h3 ρ' hρ (fun k q hq => by have := hat (k + 1) q (by simpa using hq); rw [← this]; congr 1; omega) t' x hx
        · cases h
      · cases h
    · rename_i av ht
      split at h
      · rename_i r os' hr
        injection h with h; simp only [Prod.mk.injEq] at h; obtain ⟨rfl, rfl⟩ := h
        obtain ⟨ps, h1, h2, h3⟩ := asmN_ok hok ks j r os' hE' hr
        refine ⟨ps, h1, h2, fun ρ' hρ hat t' x hx => ?_⟩
        rw [List.lookup_cons] at hx
        split at hx
        · rename_i et
          have : t' = t := by simpa using et
          subst this
          injection hx with hx; subst hx
          have hk := hok.2 t' _ ht
          have he := hE t' _ (by simp) ht
          unfold feR at he
          simp only at hk he
          refine pA_ok (q := ltq m) (fun i hi => ?_) hk he
          unfold ltq at hi; simp only [decide_eq_true_eq] at hi; exact hρ i hi
        · exact h3 ρ' hρ hat t' x hx
      · cases h
    · cases h
def freeS (T : Tab) (ft : Nat → FT) (N k : Nat) (asm : List (Nat × Bool)) (ks : List (Nat × Bool)) (ops : List Oper) (s : S) : Option (List Prop × S) :=
  match okS s, frN T ft N ops.toArray asm s 0 (ops.take k) ⟨frI s.fr, s.H.length, false⟩ with
  | true, some (g, st) => (match asmN s.H.length st.fr 0 ks with
    | some (fr, os) => (match okS ⟨s.fr, s.gl, demI st.dm s.H⟩, apL os with
      | true, true => some (g, ⟨fr, s.gl, demI st.dm s.H ++ os⟩)
      | _, _ => none)
    | none => none)
  | _, _ => none
def regD (T : Tab) (ft : Nat → FT) (N k : Nat) (asm : List (Nat × Bool)) (ks : List (Nat × Bool)) (cs : List Co) (live objs : List Nat) (ops : List Oper) (s : S) : Option (List Prop × S) :=
  match freeS T ft N k asm ks ops s with
  | some (g, s1) => (match exR T ft N ops.toArray asm k (ops.drop k) s1 with
    | some (g2, s2) => (match after cs live objs s2 with | some s3 => some (g ++ g2, s3) | none => none)
    | none => none)
  | none => none
theorem ltC_p {c : Cl} (h : ltC m c = true) : pC (ltq m) c = true := by cases c <;> first | rfl | exact h
theorem ltL_p : ∀ {l : List Cl}, ltL m l = true → pL (ltq m) l = true
  | [], _ => rfl
  | c :: l, h => by
    simp only [ltL, Bool.and_eq_true] at h
    simp only [pL, Bool.and_eq_true]
    exact ⟨ltC_p h.1, ltL_p h.2⟩
theorem ltX_p {cs : Cs} (h : ltX m cs = true) : pX (ltq m) cs = true := by cases cs <;> first | rfl | exact ltL_p h
theorem lt1_p {x : A1} (h : lt1 m x = true) : p1 (ltq m) x = true := by
  cases x with
  | c x => exact ltC_p h
  | g n cs => exact ltX_p h
theorem lt1s_p : ∀ {l : List A1}, lt1s m l = true → p1s (ltq m) l = true
  | [], _ => rfl
  | c :: l, h => by
    simp only [lt1s, Bool.and_eq_true] at h
    simp only [p1s, Bool.and_eq_true]
    exact ⟨lt1_p h.1, lt1s_p h.2⟩
theorem ltA_p {x : AV} (h : ltA m x = true) : pA (ltq m) x = true := by
  cases x with
  | c x => exact ltC_p h
  | g n cs => exact ltX_p h
  | t xs => exact lt1s_p h
theorem W_regD (hT : TabOk P T) (hF : ∀ i, FtOk P (Kp bs w0) (ft i)) (hm : P.follows .mixedOrders = true) {id : Nat} {l : List Oper} (k : Nat) (asm ks : List (Nat × Bool)) (cs : List Co) (live objs : List Nat) {g : List Prop} {s' : S}
    (hr : (okRegion l.toArray k N && decide (k ≤ l.length)) = true) (h : regD T ft N k asm ks cs live objs l s = some (g, s')) (hg : allP g) {Q : Exit → S → Prop} (hQ : Q .normal s') :
    W P N bs w0 (.region id l.toArray true) s Q := by
  intro a w hR
  simp only [Bool.and_eq_true] at hr
  obtain ⟨hreg, hkl⟩ := hr
  unfold regD at h
  split at h
  · rename_i g1 s1 h1
    split at h
    · rename_i g2 s2 h2
      split at h
      · rename_i s3 h3
        injection h with h; simp only [Prod.mk.injEq] at h; obtain ⟨rfl, rfl⟩ := h
        obtain ⟨ga, gb⟩ := allP_append.1 hg
        unfold freeS at h1
        split at h1
        · rename_i g' st hs hfr
          split at h1
          · rename_i fr os has
            split at h1
            · rename_i hsI hap
              injection h1 with h1; simp only [Prod.mk.injEq] at h1; obtain ⟨rfl, rfl⟩ := h1
              obtain ⟨r1, r2, ρ, r3⟩ := hR
              have hxd : ∀ {w' : World}, Ext w.drew w' → Kp bs w0 w' := fun hx => (r3.kp.drew).ext hx
              have hhp : HpR ρ w.drew s.H := fun i o ho => (r3.hp i o ho).keep fun _ _ _ => rfl
              refine wp_region_rel k N Ext hm hreg hkl r2 r1 (fun w => Below.refl _ _) (fun _ _ _ h1 h2 => Ext.tr h1 h2) ?_
              refine RW_fr hT (fun i f F h => ⟨fun args H g av objs h1 h2 ρ w' vals h3 => (hF i f F h).1 args H g av objs h1 h2 ρ w' vals (hxd h3), (hF i f F h).2⟩) hs r3.gl hhp (Q' := fun a' w' => wpList P l.toArray (fun ex a' w' => ∃ s', Q ex s' ∧ Rel N bs w0 s' a' w') (l.drop k) a' w') (l.take k) 0 _ _ _ _ hfr ga ?_ ?_ ?_ ?_
              · exact ⟨Nat.le_refl _, fun t x hx => by
                  obtain ⟨e1, e2⟩ := frI_lk hx
                  rw [e1]
                  exact ltA_p (ltF_ok (okS_ok hs).1 t _ e2)⟩
              · intro t x hx v w' hX hv
                obtain ⟨e1, e2⟩ := frI_lk hx
                unfold feR
                rw [e1]
                have hv' : v = a.tmps.getD t undef := hv
                subst hv'
                exact r3.fr t _ e2
              · intro a' w' hX hn hd hok hE
                obtain ⟨ps, hl, hps, hfin⟩ := asmN_ok hok ks 0 fr os (fun t x _ hx => hE t x hx) has
                have hlenI : (demI st.dm s.H).length = s.H.length := by unfold demI; split; exact demO_len _; rfl
                have hRI : RelA ρ bs w0 ⟨s.fr, s.gl, demI st.dm s.H⟩ a w := by
                  unfold demI; split
                  · exact r3.dem
                  · exact r3
                refine exR_ok hT hF _ k g2 _ a' w' h2 gb ⟨hd, hn, updL ρ s.H.length ps, ?_⟩ (fun a2 w2 hr => ⟨_, hQ, after_ok h3 hr⟩)
                have hsep := apL_ok hap
                have hU : ∀ i, i < s.H.length → updL ρ s.H.length ps i = ρ i := updL_lt
                have hUat : ∀ (k : Nat) (p : Pl), ps[k]? = some p → updL ρ s.H.length ps (s.H.length + k) = p := fun k p hp => updL_at hp
                have hold : ∀ {j : Nat} {x : Oj} {g : Nat}, (demI st.dm s.H)[j]? = some x → objAt (ρ j) x g → g < w.heap.size := fun hj hat => objAt_lt (hRI.hp _ _ hj) hat
                have e : updL ρ s.H.length ps = updL ρ (demI st.dm s.H).length ps := by rw [hlenI]
                have hobj : ∀ (k : Nat) (o : Oj) (p : Pl), os[k]? = some o → ps[k]? = some p → objR (updL ρ s.H.length ps) w' p o := fun k o p ho hp => (hps k o p ho hp).1 _ hU
                have sep2 : ∀ (k l : Nat) (o o' : Oj) (p p' : Pl) (g : Nat), k ≠ l → os[k]? = some o → os[l]? = some o' → ps[k]? = some p → ps[l]? = some p' → o.own = true → objAt p o g → ¬ objAt p' o' g := by
                  intro k l o o' p p' g hkl ho ho' hp hp' hown hat hat'
                  rcases Nat.lt_or_gt_of_ne hkl with hlt | hlt
                  · exact ap_sep (hsep k l o o' hlt ho ho') (hobj k o p ho hp) (hobj l o' p' ho' hp') (.inl hown) hat hat'
                  · exact ap_sep (hsep l k o' o hlt ho' ho) (hobj l o' p' ho' hp') (hobj k o p ho hp) (.inr hown) hat' hat
                have place : ∀ (k : Nat) (o : Oj) (p : Pl) (g : Nat), os[k]? = some o → ps[k]? = some p → objAt p o g → w.heap.size ≤ g ∨ o.kd = .ro false := fun k o p g ho hp hat => (hps k o p ho hp).2.1 g hat
                have hfr := hfin _ hU (fun k p hp => by have := hUat k p hp; simpa using this)
                rw [e] at hobj hfr ⊢
                refine RelA.news (w := w) (s := ⟨s.fr, s.gl, demI st.dm s.H⟩) hRI hsI hl rfl (fun j x hj => .inr ⟨hj, (hRI.hp j x hj).keep fun g hlt _ => hX.block g hlt⟩) (hxd hX) hobj (fun k o p j x g ho hp hj hxk hat hor hat2 => ?_) sep2 (fun k o p ho hp hfs g hat => ?_) _ _ hfr
                · rcases place k o p g ho hp hat with hge | hro
                  · have := hold hj hat2
                    omega
                  · have hyes := (hps k o p ho hp).2.2 hro
                    have hj2 : (demO s.H)[j]? = some x := by rw [hyes] at hj; exact hj
                    obtain ⟨_, _, hno, _⟩ := demO_at hj2
                    rcases hor with h1 | h1
                    · rw [hno] at h1; cases h1
                    · unfold Oj.own at h1; rw [hro] at h1; cases h1
                · rcases place k o p g ho hp hat with hge | hro
                  · exact .inl (Nat.le_trans r3.kp.size hge)
                  · unfold Oj.fsh at hfs; rw [hro] at hfs; cases hfs
              · intro L hL w' hX
                exact hL a w' hX r2 r1 (fun t x hx => by
                  obtain ⟨e1, e2⟩ := frI_lk hx
                  unfold feR
                  rw [e1]
                  exact r3.fr t _ e2)
            · cases h1
          · cases h1
        · cases h1
      · cases h
    · cases h
  · cases h
end
end Go.Sx
end
section
set_option linter.unusedVariables false
set_option linter.unusedSimpArgs false
namespace Go.Sx
open Go.RowKit Go.Ch
section
variable {P : Program} {T : Tab} {ρ ρ' : Pls} {w w' : World} {bs : Bs} {w0 : World} {s s' : S} {a : Act} {N : Nat}
def rvA (T : Tab) (s : S) : ResultVar → Option AV
  | .tmp t => s.fr.lookup t
  | .cell p ty => match s.fr.lookup p with
    | some x => (match ldA T s.H ty x with | some ([], z) => some z | _ => none)
    | none => none
theorem loadAt_run {t : TypeId} {v u : Value} (h : (Instr.loadAt t v).run P w = .ok u w) : (do loadVar t (← asAddr v) : Sem Value).run P w = .ok u w := by
  unfold Instr.loadAt Instr.sureAddr at h
  cases v with
  | pointer a => cases a with
    | some a => simpa [asAddr] using h
    | none => simp at h
  | _ => simp at h
def rvM (tmps : Array Value) : ResultVar → Sem Value
  | .tmp t => pure (tmps.getD t undef)
  | .cell p ty => do loadVar ty (← asAddr (tmps.getD p undef))
theorem results_rv (fn : Func) (tmps : Array Value) : results fn tmps = (do
    let vs ← fn.results.mapM (rvM tmps)
    pure (if h : vs.size = 1 then vs[0] else .tuple vs)) := by
  unfold results
  have e : rvM tmps = fun r => (match r with | .tmp t => (pure (tmps.getD t undef) : Sem Value) | .cell p ty => (do loadVar ty (← asAddr (tmps.getD p undef)))) := by
    funext r; cases r <;> rfl
  rw [e]; rfl
theorem rvA_ok (hT : TabOk P T) (hr : RelA ρ bs w0 s a w) {r : ResultVar} {av : AV} (h : rvA T s r = some av) :
    ∃ v, (rvM a.tmps r).run P w = .ok v w ∧ avR ρ av v := by
  cases r with
  | tmp t => exact ⟨_, rfl, hr.fr t _ h⟩
  | cell p ty =>
    simp only [rvA] at h
    split at h
    · rename_i x hx
      split at h
      · rename_i z hz
        injection h with h; subst h
        obtain ⟨u, h1, h2⟩ := ldA_ok hT hr.hp hz allP_nil (hr.fr p x hx)
        exact ⟨u, loadAt_run h1, h2⟩
      · cases h
    · cases h
def a1Of : AV → Option A1
  | .c x => some (.c x)
  | .g n cs => some (.g n cs)
  | .t _ => none
theorem a1Of_ok {x : AV} {y : A1} (h : a1Of x = some y) {v : Value} (hv : avR ρ x v) : a1R ρ y v := by
  cases x <;> simp only [a1Of] at h <;> first | (injection h with h; subst h; exact hv) | cases h
def resA (T : Tab) (s : S) : List ResultVar → Option AV
  | [] => some (.t [])
  | [r] => rvA T s r
  | [r, r'] => (match rvA T s r, rvA T s r' with
    | some x, some y => (match a1Of x, a1Of y with | some x, some y => some (.t [x, y]) | _, _ => none)
    | _, _ => none)
  | [r, r', r''] => (match rvA T s r, rvA T s r', rvA T s r'' with
    | some x, some y, some z => (match a1Of x, a1Of y, a1Of z with | some x, some y, some z => some (.t [x, y, z]) | _, _, _ => none)
    | _, _, _ => none)
  | _ => none
theorem resA_ok (hT : TabOk P T) (hr : RelA ρ bs w0 s a w) {fn : Func} {rs : List ResultVar} (hf : fn.results = rs.toArray) {av : AV} (h : resA T s rs = some av) :
    ∃ v, (results fn a.tmps).run P w = .ok v w ∧ avR ρ av v := by
  unfold resA at h
  split at h
  · injection h with h; subst h
    exact ⟨.tuple #[], by simp [results, hf], [], F2.nil, rfl⟩
  · rename_i r
    obtain ⟨v, h1, h2⟩ := rvA_ok hT hr h
    refine ⟨v, ?_, h2⟩
    rw [results_rv, hf]; simp [h1]
  · rename_i r r'
    split at h
    · rename_i x y hx hy
      split at h
      · rename_i x1 y1 hx1 hy1
        injection h with h; subst h
        obtain ⟨v, h1, h2⟩ := rvA_ok hT hr hx
        obtain ⟨u, h3, h4⟩ := rvA_ok hT hr hy
        refine ⟨.tuple #[v, u], ?_, [v, u], F2.cons (a1Of_ok hx1 h2) (F2.cons (a1Of_ok hy1 h4) F2.nil), rfl⟩
        rw [results_rv, hf]; simp [h1, h3]
      · cases h
    · cases h
  · rename_i r r' r''
    split at h
    · rename_i x y z hx hy hz
      split at h
      · rename_i x1 y1 z1 hx1 hy1 hz1
        injection h with h; subst h
        obtain ⟨v, h1, h2⟩ := rvA_ok hT hr hx
        obtain ⟨u, h3, h4⟩ := rvA_ok hT hr hy
        obtain ⟨t, h5, h6⟩ := rvA_ok hT hr hz
        refine ⟨.tuple #[v, u, t], ?_, [v, u, t], F2.cons (a1Of_ok hx1 h2) (F2.cons (a1Of_ok hy1 h4) (F2.cons (a1Of_ok hz1 h6) F2.nil)), rfl⟩
        rw [results_rv, hf]; simp [h1, h3, h5]
      · cases h
    · cases h
  · cases h
def retS (T : Tab) (s : S) (rs : List ResultVar) (objs : List Nat) : Option (AV × Hp) := match resA T s rs with
  | some av => (match keep [0] objs ⟨[(0, av)], [], s.H⟩ with
    | some ⟨[(0, x)], _, H⟩ => (match ltA H.length x && ltH H.length H with | true => some (x, H) | false => none)
    | _ => none)
  | none => none
theorem retS_ok {gv : Nat → Value} (hT : TabOk P T) (hR : Rel N (noB gv) w s a w') {fn : Func} {rs : List ResultVar} (hf : fn.results = rs.toArray) {objs : List Nat} {av : AV} {H' : Hp} (h : retS T s rs objs = some (av, H')) {ρ0 : Pls} {H : Hp} :
    ∃ v, (results fn a.tmps).run P w' = .ok v w' ∧ Ext w w' ∧ ∃ ps, Left ρ0 w H (shA H.length av) (shH H.length H') v w' ps := by
  obtain ⟨_, _, ρ, hr⟩ := hR
  unfold retS at h
  split at h
  · rename_i x hx
    obtain ⟨v, h1, h2⟩ := resA_ok hT hr hf hx
    split at h
    · rename_i y gl H2 hk
      split at h
      · rename_i hlt
        simp only [Bool.and_eq_true] at hlt
        injection h with h; simp only [Prod.mk.injEq] at h; obtain ⟨rfl, rfl⟩ := h
        have h0 : Rel 1 (noB gv) w ⟨[(0, x)], [], s.H⟩ { tmps := #[v], defers := [] } w' := ⟨rfl, rfl, ρ, fun t z hz => by
          rw [List.lookup_cons] at hz
          split at hz
          · rename_i e
            have : t = 0 := by simpa using e
            subst this
            injection hz with hz; subst hz; exact h2
          · simp at hz, GlR.nil, hr.hp, hr.sep, hr.own, hr.kp⟩
        obtain ⟨_, _, ρ2, hr2⟩ := keep_ok hk h0
        have hv := hr2.fr 0 y rfl
        exact ⟨v, h1, hr.kp.below, left_of hr2 hv hlt.1 hlt.2⟩
      · cases h
    · cases h
  · cases h
def aGb (n : Nat) : AV → Option (List UInt8) | .g m cs => (match Nat.beq m n with | true => csB cs | false => none) | _ => none
def aGw (n : Nat) : AV → Option (List UInt32) | .g m cs => (match Nat.beq m n with | true => csW cs | false => none) | _ => none
def aGc (n : Nat) : AV → Option (List Cl) | .g m (.c l) => (match Nat.beq m n && Nat.beq l.length n with | true => some l | false => none) | _ => none
theorem aGb_ok {n : Nat} {x : AV} {l : List UInt8} (h : aGb n x = some l) {v : Value} (hv : avR ρ x v) (ρ' : Pls) : avR ρ' (.g n (.b l)) v ∧ l.length = n := by
  unfold aGb at h
  split at h
  · split at h
    · rename_i hm
      have e := Nat.eq_of_beq_eq_true hm
      subst e
      obtain ⟨vs, h1, h2, h3⟩ := hv
      have := csB_ok h h1
      subst this
      exact ⟨⟨_, csR_b.2 rfl, h2, h3⟩, by simpa using h2⟩
    · cases h
  · cases h
theorem aGw_ok {n : Nat} {x : AV} {l : List UInt32} (h : aGw n x = some l) {v : Value} (hv : avR ρ x v) (ρ' : Pls) : avR ρ' (.g n (.w l)) v ∧ l.length = n := by
  unfold aGw at h
  split at h
  · split at h
    · rename_i hm
      have e := Nat.eq_of_beq_eq_true hm
      subst e
      obtain ⟨vs, h1, h2, h3⟩ := hv
      have := csW_ok h h1
      subst this
      exact ⟨⟨_, csR_w.2 rfl, h2, h3⟩, by simpa using h2⟩
    · cases h
  · cases h
theorem lstE {α : Type} (d : α) {l : List α} {n : Nat} (h : l.length = n) : l = (List.range n).map fun i => l.getD i d := by
  subst h
  apply List.ext_getElem?
  intro i
  by_cases hi : i < l.length
  · simp [hi]
  · simp [hi]
theorem F2.getD {l : List Cl} {vs : List Value} (h : F2 (clR ρ) l vs) (i : Nat) (hi : i < vs.length) : avR ρ (.c (l.getD i .junk)) (vs.getD i undef) := by
  have hl : i < l.length := by have := h.1; omega
  have := h.2 i _ _ (List.getElem?_eq_getElem hl) (List.getElem?_eq_getElem hi)
  show clR ρ _ _
  rw [List.getD_eq_getElem?_getD, List.getD_eq_getElem?_getD, List.getElem?_eq_getElem hl, List.getElem?_eq_getElem hi]
  exact this
theorem aGc_ok {n : Nat} {x : AV} {l : List Cl} (h : aGc n x = some l) {v : Value} (hv : avR ρ x v) : ∃ vs : List Value, vs.length = n ∧ v = .agg vs.toArray ∧ ∀ i, i < n → avR ρ (.c (l.getD i .junk)) (vs.getD i undef) := by
  unfold aGc at h
  split at h
  · split at h
    · rename_i hm
      simp only [Bool.and_eq_true] at hm
      injection h with h; subst h
      have e := Nat.eq_of_beq_eq_true hm.1
      have e2 := Nat.eq_of_beq_eq_true hm.2
      subst e
      obtain ⟨vs, h1, h2, h3⟩ := hv
      have h1' : F2 (clR ρ) _ vs := h1
      refine ⟨vs, h2, h3, fun i hi => ?_⟩
      have := F2.getD h1' i (by omega)
      exact this
    · cases h
  · cases h
end
end Go.Sx
end
section
set_option linter.unusedVariables false
set_option linter.unusedSimpArgs false
namespace Go.Sx
open Go.RowKit Go.Ch
section
variable {P : Program} {ρ : Pls} {w w' : World} {H : Hp}
theorem left_row {v : Value} {e : TypeId} {vs : List Value} {cs : Cs} {n : Nat} (h : Own w' w.heap.size e v vs) (hc : ∀ ρ, csR ρ cs vs) (hn : vs.length = n) :
    ∃ ps, Left ρ w H (.c (.wh H.length)) [⟨.row, e, 1, n, cs⟩] v w' ps := by
  obtain ⟨n', h1⟩ : ∃ n', w'.ownsRow w.heap.size e 1 v n' vs := ⟨_, h⟩
  have hl := h1.1
  rw [Nat.mul_one] at hl
  have hn' : n' = n := by omega
  subst hn'
  have hv : ∃ p : Pl, v = .slice p.A p.n p.cap ∧ p.sz = 1 ∧ p.n = n' ∧ ∀ g, (∃ ad, p.A = some ad ∧ ad.block = g) → w.heap.size ≤ g := by
    rcases h1.2 with ⟨hv, hn0⟩ | ⟨g, cap, cur, hv, hg, _⟩
    · exact ⟨⟨none, 0, 0, 1⟩, hv, rfl, hn0.symm, fun g ⟨ad, had, _⟩ => by cases had⟩
    · exact ⟨⟨some ⟨g, 0, none⟩, n', cap, 1⟩, hv, rfl, rfl, fun g' ⟨ad, had, he⟩ => by injection had with had; subst had; subst he; exact hg⟩
  obtain ⟨p, rfl, e1, e2, hp⟩ := hv
  have hu : updL ρ H.length [p] (H.length + 0) = p := updL_at rfl
  rw [Nat.add_zero] at hu
  refine ⟨[p], rfl, fun k o q ho hq => ?_, ?_, fun k o q g ho hq hat => ?_, fun k l o o' q q' g hkl ho ho' => ?_⟩
  · cases k with
    | zero =>
      simp at ho hq; subst ho; subst hq
      refine ⟨⟨e1, e2, by rw [← (hc (updL ρ H.length [p])).len, hl]; simp⟩, vs, hc _, ?_⟩
      rw [e2]
      refine ⟨h1.1, ?_⟩
      rcases h1.2 with h2 | ⟨g, cap, cur, hv, _, h2⟩
      · rw [e2] at h2; exact .inl h2
      · rw [e2] at hv; exact .inr ⟨g, cap, cur, hv, Nat.zero_le _, h2⟩
    | succ k => simp at ho
  · show clR _ (.wh _) _
    simp only [clR, hu]
  · cases k with
    | zero => simp at ho hq; subst ho; subst hq; exact .inl (hp g hat)
    | succ k => simp at ho
  · cases k with
    | zero => cases l with
      | zero => exact absurd rfl hkl
      | succ l => simp at ho'
    | succ k => simp at ho
theorem left_val {v : Value} {av : AV} (h : ∀ ρ, avR ρ av v) : ∃ ps, Left ρ w H av [] v w' ps :=
  ⟨[], rfl, fun k o q ho => by simp at ho, h _, fun k o q g ho => by simp at ho, fun k l o o' q q' g hkl ho => by simp at ho⟩
theorem calls_mono {f : FuncId} {args : Array Value} {R R' : Value → World → Prop} (h : Calls P f args w (Ret R)) (hR : ∀ v w', R v w' → R' v w') : Calls P f args w (Ret R') :=
  h.mono fun _ _ ⟨v, he, hr⟩ => ⟨v, he, hR v _ hr⟩
theorem InSl.sl {e : TypeId} {n : Nat} {cs : Cs} {v : Value} {p : Pl} (h : InSl w e n cs v p) {vs : List Value} (hc : ∀ ρ us, csR ρ cs us → us = vs) (hn : vs.length = n) : Sl w w.heap.size v vs := by
  obtain ⟨rfl, hr⟩ := h
  obtain ⟨⟨e1, e2, e3⟩, ⟨h1, h2, h3⟩, us, hcs, hA⟩ := hr (fun _ => p)
  obtain rfl := hc _ us hcs
  have e4 : p.n = us.length := by rw [hn]; exact e2
  refine ⟨Nat.le_refl _, p.A, p.cap, by rw [e4], by rw [← e4]; exact h1, h2, h3, fun ad had j u hu => ⟨?_, hA ad had j u hu⟩⟩
  have := World.block_lt_of_cell? _ _ (hA ad had j u hu)
  rwa [block_add] at this
end
end Go.Sx
end
section
set_option linter.unusedVariables false
set_option linter.unusedSimpArgs false
namespace Go.Ch
def rotr (x : UInt32) (n : Nat) : UInt32 := (x <<< UInt32.ofNat (32 - n)) ||| (x >>> UInt32.ofNat n)
def bsig0 (x : UInt32) : UInt32 := rotr x 2 ^^^ rotr x 13 ^^^ rotr x 22
def bsig1 (x : UInt32) : UInt32 := rotr x 6 ^^^ rotr x 11 ^^^ rotr x 25
def ssig0 (x : UInt32) : UInt32 := rotr x 7 ^^^ rotr x 18 ^^^ (x >>> 3)
def ssig1 (x : UInt32) : UInt32 := rotr x 17 ^^^ rotr x 19 ^^^ (x >>> 10)
def ch (e f g : UInt32) : UInt32 := (e &&& f) ^^^ (~~~e &&& g)
def maj (a b c : UInt32) : UInt32 := (a &&& b) ^^^ (a &&& c) ^^^ (b &&& c)
def bitAt (x : UInt32) (p : Nat) : Bool := x.toNat.testBit p
theorem ofNat_toNat32 {n : Nat} (h : n < 4294967296) : (UInt32.ofNat n).toNat = n := by simp; omega
theorem bit_xor (x y : UInt32) (p : Nat) : bitAt (x ^^^ y) p = (bitAt x p != bitAt y p) := by
  simp [bitAt, UInt32.toNat_xor, Nat.testBit_xor]
theorem bit_and (x y : UInt32) (p : Nat) : bitAt (x &&& y) p = (bitAt x p && bitAt y p) := by
  simp [bitAt, UInt32.toNat_and, Nat.testBit_and]
theorem bit_or (x y : UInt32) (p : Nat) : bitAt (x ||| y) p = (bitAt x p || bitAt y p) := by
  simp [bitAt, UInt32.toNat_or, Nat.testBit_or]
theorem bit_not (x : UInt32) (p : Nat) (h : p < 32) : bitAt (~~~x) p = !bitAt x p := by
  have : (~~~x).toNat = (~~~x.toBitVec).toNat := rfl
  simp only [bitAt, this, BitVec.toNat_not]
  have hx := x.toNat_lt
  have e : 2 ^ 32 - 1 - x.toBitVec.toNat = 2 ^ 32 - (x.toNat + 1) := by
    show 2 ^ 32 - 1 - x.toNat = _
    omega
  rw [e, Nat.testBit_two_pow_sub_succ hx]
  simp [h]
theorem bit_shr (x : UInt32) (n p : Nat) (hn : n < 32) : bitAt (x >>> UInt32.ofNat n) p = bitAt x (p + n) := by
  simp only [bitAt, UInt32.toNat_shiftRight, ofNat_toNat32 (show n < 4294967296 by omega), Nat.mod_eq_of_lt hn, Nat.testBit_shiftRight]
  rw [Nat.add_comm]
theorem bit_shl (x : UInt32) (n p : Nat) (hn : n < 32) (hp : p < 32) : bitAt (x <<< UInt32.ofNat n) p = (decide (n ≤ p) && bitAt x (p - n)) := by
  simp only [bitAt, UInt32.toNat_shiftLeft, ofNat_toNat32 (show n < 4294967296 by omega), Nat.mod_eq_of_lt hn]
  rw [Nat.testBit_mod_two_pow, Nat.testBit_shiftLeft]
  simp [hp]
theorem bit_hi (x : UInt32) (p : Nat) (hp : 32 ≤ p) : bitAt x p = false := by
  apply Nat.testBit_lt_two_pow
  exact Nat.lt_of_lt_of_le x.toNat_lt (Nat.pow_le_pow_right (by omega) hp)
theorem bit_rotr (x : UInt32) (n p : Nat) (h0 : 0 < n) (hn : n < 32) (hp : p < 32) : bitAt (rotr x n) p = bitAt x ((p + n) % 32) := by
  rw [rotr, bit_or, bit_shl x (32 - n) p (by omega) hp, bit_shr x n p hn]
  by_cases h : p + n < 32
  · rw [Nat.mod_eq_of_lt h]
    have : ¬ (32 - n ≤ p) := by omega
    simp [this]
  · have h1 : (p + n) % 32 = p - (32 - n) := by omega
    rw [h1, bit_hi x (p + n) (by omega)]
    have : 32 - n ≤ p := by omega
    simp [this]
def hiBit (x : UInt32) (i : Nat) : Nat := if bitAt x (31 - i) then 1 else 0
theorem hiBit_lt (x : UInt32) (i : Nat) : hiBit x i < 2 := by unfold hiBit; split <;> omega
def top (z : UInt32) (i : Nat) : Nat := z.toNat / 2 ^ (32 - i)
theorem top_zero (z : UInt32) : top z 0 = 0 := by
  unfold top
  exact Nat.div_eq_of_lt z.toNat_lt
theorem top_all (z : UInt32) : top z 32 = z.toNat := by simp [top]
theorem top_succ (z : UInt32) (i : Nat) (hi : i < 32) : top z (i + 1) = top z i * 2 + hiBit z i := by
  have e : 32 - i = (32 - (i + 1)) + 1 := by omega
  unfold top hiBit bitAt
  rw [e, Nat.pow_succ, ← Nat.div_div_eq_div_mul]
  have h31 : 31 - i = 32 - (i + 1) := by omega
  rw [h31, Nat.testBit_eq_decide_div_mod_eq]
  generalize z.toNat / 2 ^ (32 - (i + 1)) = q
  by_cases h : q % 2 = 1
  · simp [h]; omega
  · simp [h]; omega
theorem top_le (z : UInt32) (i : Nat) (hi : i ≤ 32) : top z i < 2 ^ i := by
  induction i with
  | zero => rw [top_zero]; simp
  | succ i ih =>
    rw [top_succ z i (by omega), Nat.pow_succ]
    have := ih (by omega)
    have := hiBit_lt z i
    omega
def wadd (acc : UInt32) (b : UInt8) : UInt32 := acc * 256 + b.toUInt32
theorem or_byte (x : UInt32) (b : UInt8) : (x <<< UInt32.ofNat 8) ||| b.toUInt32 = wadd x b := by
  apply UInt32.toNat_inj.1
  unfold wadd
  have hb : b.toUInt32.toNat = b.toNat := by simp
  have hlt := b.toNat_lt
  rw [UInt32.toNat_or, UInt32.toNat_add, UInt32.toNat_mul, UInt32.toNat_shiftLeft, hb]
  have h256 : (256 : UInt32).toNat = 256 := rfl
  have h8 : (UInt32.ofNat 8).toNat % 32 = 8 := rfl
  rw [h256, h8]
  have e : (x.toNat <<< 8) % 2 ^ 32 = ((x.toNat % 2 ^ 24) <<< 8) := by
    rw [Nat.shiftLeft_eq, Nat.shiftLeft_eq]; omega
  rw [e, ← Nat.shiftLeft_add_eq_or_of_lt (show b.toNat < 2 ^ 8 by omega), Nat.shiftLeft_eq]
  omega
def wordOf (bs : List UInt8) : UInt32 := bs.foldl wadd 0
def first16 (bl : List UInt8) : List UInt32 := (List.range 16).map fun k => wordOf ((bl.drop (4 * k)).take 4)
def nextW (ws : List UInt32) : UInt32 :=
  let i := ws.length
  ws.getD (i - 16) 0 + ssig0 (ws.getD (i - 15) 0) + ws.getD (i - 7) 0 + ssig1 (ws.getD (i - 2) 0)
def extW (ws : List UInt32) : List UInt32 := ws ++ [nextW ws]
def extN : Nat → List UInt32 → List UInt32
  | 0, ws => ws
  | n + 1, ws => extW (extN n ws)
def sched (bl : List UInt8) : List UInt32 := extN 48 (first16 bl)
theorem length_first16 (bl : List UInt8) : (first16 bl).length = 16 := by simp [first16]
theorem length_extN (n : Nat) (ws : List UInt32) : (extN n ws).length = ws.length + n := by
  induction n with
  | zero => rfl
  | succ n ih => simp [extN, extW, ih]; omega
theorem length_sched (bl : List UInt8) : (sched bl).length = 64 := by simp [sched, length_extN, length_first16]
structure Words where
  a : UInt32
  b : UInt32
  c : UInt32
  d : UInt32
  e : UInt32
  f : UInt32
  g : UInt32
  h : UInt32
def Words.list (v : Words) : List UInt32 := [v.a, v.b, v.c, v.d, v.e, v.f, v.g, v.h]
def roundOf (v : Words) (n : UInt32) : Words :=
  let t := v.h + bsig1 v.e + ch v.e v.f v.g + n
  let u := bsig0 v.a + maj v.a v.b v.c
  ⟨t + u, v.a, v.b, v.c, v.d + t, v.e, v.f, v.g⟩
def bitI (x : UInt32) (i : Int) : Nat := if i < 0 then 0 else hiBit x i.toNat
theorem bitI_lt (x : UInt32) (i : Int) : bitI x i < 2 := by
  unfold bitI; split
  · omega
  · exact hiBit_lt x _
theorem shr_and_one (x : UInt32) (i : Nat) (hi : i < 32) : (x >>> UInt32.ofNat (31 - i)) &&& 1 = UInt32.ofNat (hiBit x i) := by
  apply UInt32.toNat_inj.1
  have h1 := hiBit_lt x i
  rw [UInt32.toNat_and, ofNat_toNat32 (by omega), UInt32.toNat_shiftRight, ofNat_toNat32 (by omega), Nat.mod_eq_of_lt (show 31 - i < 32 by omega)]
  have e1 : (1 : UInt32).toNat = 2 ^ 1 - 1 := rfl
  rw [e1, Nat.and_two_pow_sub_one_eq_mod, Nat.shiftRight_eq_div_pow]
  unfold hiBit bitAt
  rw [Nat.testBit_eq_decide_div_mod_eq]
  generalize x.toNat / 2 ^ (31 - i) = q
  by_cases h : q % 2 = 1
  · simp [h]
  · simp [h]; omega
theorem build_step (z : UInt32) (k : Nat) (hk : k < 32) (s : UInt32) (hs : s.toNat = hiBit z k) : UInt32.ofNat (top z k) * 2 + s = UInt32.ofNat (top z (k + 1)) := by
  apply UInt32.toNat_inj.1
  have h1 := top_le z k (by omega)
  have h2 := top_le z (k + 1) (by omega)
  have h3 : 2 ^ k ≤ 2 ^ 31 := Nat.pow_le_pow_right (by omega) (by omega)
  have h4 : 2 ^ (k + 1) ≤ 2 ^ 32 := Nat.pow_le_pow_right (by omega) (by omega)
  have h5 := hiBit_lt z k
  have e2 : (2 : UInt32).toNat = 2 := rfl
  rw [UInt32.toNat_add, UInt32.toNat_mul, e2, ofNat_toNat32 (by omega), ofNat_toNat32 (by omega), hs, top_succ z k hk]
  omega
def mixZ (x : UInt32) (a b c : Nat) (push : Bool) : UInt32 := rotr x a ^^^ rotr x b ^^^ (if push then x >>> UInt32.ofNat c else rotr x c)
theorem hiBit_rotr (x : UInt32) (a k : Nat) (h0 : 0 < a) (ha : a < 32) (hk : k < 32) : hiBit (rotr x a) k = bitI x (((k : Int) - a + 32) % 32) := by
  unfold bitI
  rw [if_neg (show ¬ (((k : Int) - a + 32) % 32 < 0) by omega)]
  unfold hiBit
  rw [bit_rotr x a _ h0 ha (by omega)]
  have : (31 - k + a) % 32 = 31 - (((k : Int) - a + 32) % 32).toNat := by omega
  rw [this]
theorem hiBit_shr (x : UInt32) (c k : Nat) (h0 : 0 < c) (hc : c < 32) (hk : k < 32) : hiBit (x >>> UInt32.ofNat c) k = bitI x ((k : Int) - c) := by
  unfold bitI
  by_cases h : (k : Int) - c < 0
  · rw [if_pos h]
    unfold hiBit
    rw [bit_shr x c _ hc, bit_hi x _ (by omega)]; simp
  · rw [if_neg h]
    unfold hiBit
    rw [bit_shr x c _ hc]
    have : 31 - k + c = 31 - ((k : Int) - c).toNat := by omega
    rw [this]
theorem hiBit_xor (x y : UInt32) (k : Nat) : hiBit (x ^^^ y) k = (hiBit x k + hiBit y k) % 2 := by
  unfold hiBit
  rw [bit_xor]
  cases bitAt x (31 - k) <;> cases bitAt y (31 - k) <;> rfl
theorem mix_bit (x : UInt32) (a b c : Nat) (push : Bool) (ha0 : 0 < a) (ha : a < 32) (hb0 : 0 < b) (hb : b < 32) (hc0 : 0 < c) (hc : c < 32) (k : Nat) (hk : k < 32) :
    hiBit (mixZ x a b c push) k = (bitI x (((k : Int) - a + 32) % 32) + bitI x (((k : Int) - b + 32) % 32) + (if push then bitI x ((k : Int) - c) else bitI x (((k : Int) - c + 32) % 32))) % 2 := by
  unfold mixZ
  rw [hiBit_xor, hiBit_xor, hiBit_rotr x a k ha0 ha hk, hiBit_rotr x b k hb0 hb hk]
  cases push
  · simp only [Bool.false_eq_true, if_false]
    rw [hiBit_rotr x c k hc0 hc hk]; omega
  · simp only [if_true]
    rw [hiBit_shr x c k hc0 hc hk]; omega
theorem three_bits {p q r : Nat} (hp : p < 2) (hq : q < 2) (hr : r < 2) : ((UInt32.ofNat p + UInt32.ofNat q + UInt32.ofNat r) % 2).toNat = (p + q + r) % 2 := by
  have e2 : (2 : UInt32).toNat = 2 := rfl
  rw [UInt32.toNat_mod, UInt32.toNat_add, UInt32.toNat_add, e2, ofNat_toNat32 (by omega), ofNat_toNat32 (by omega), ofNat_toNat32 (by omega)]
  omega
theorem three_half {p q r : Nat} (hp : p < 2) (hq : q < 2) (hr : r < 2) : ((UInt32.ofNat p + UInt32.ofNat q + UInt32.ofNat r) / 2).toNat = (p + q + r) / 2 := by
  have e2 : (2 : UInt32).toNat = 2 := rfl
  rw [UInt32.toNat_div, UInt32.toNat_add, UInt32.toNat_add, e2, ofNat_toNat32 (by omega), ofNat_toNat32 (by omega), ofNat_toNat32 (by omega)]
  omega
theorem ch_bit (e f g : UInt32) (k : Nat) (hk : k < 32) : hiBit (ch e f g) k = if hiBit e k = 1 then hiBit f k else hiBit g k := by
  unfold ch
  unfold hiBit
  rw [bit_xor, bit_and, bit_and, bit_not _ _ (by omega)]
  cases bitAt e (31 - k) <;> cases bitAt f (31 - k) <;> cases bitAt g (31 - k) <;> rfl
theorem maj_bit (a b c : UInt32) (k : Nat) : hiBit (maj a b c) k = (hiBit a k + hiBit b k + hiBit c k) / 2 := by
  unfold maj
  unfold hiBit
  rw [bit_xor, bit_xor, bit_and, bit_and, bit_and]
  cases bitAt a (31 - k) <;> cases bitAt b (31 - k) <;> cases bitAt c (31 - k) <;> rfl
theorem bitI_nat (x : UInt32) (k : Nat) : bitI x (k : Int) = hiBit x k := by
  unfold bitI; rw [if_neg (by omega)]; simp
def zeros (n : Nat) : List UInt32 := List.replicate n 0
def packW (bl : List UInt8) (i : Nat) : List UInt32 := (List.range 64).map fun j => wordOf (((bl.take i).drop (4 * j)).take 4)
theorem length_packW (bl : List UInt8) (i : Nat) : (packW bl i).length = 64 := by simp [packW]
theorem getD_packW (bl : List UInt8) (i j : Nat) (hj : j < 64) : (packW bl i).getD j 0 = wordOf (((bl.take i).drop (4 * j)).take 4) := by
  unfold packW
  rw [List.getD_eq_getElem?_getD, List.getElem?_map, List.getElem?_range hj]
  rfl
theorem packW_zero (bl : List UInt8) : packW bl 0 = zeros 64 := by
  unfold packW zeros
  simp [wordOf, List.map_const']
theorem packW_step (bl : List UInt8) (i : Nat) (hi : i < 64) (hl : bl.length = 64) : (packW bl i).set (i / 4) (wadd ((packW bl i).getD (i / 4) 0) (bl.getD i 0)) = packW bl (i + 1) := by
  apply List.ext_getElem?
  intro j
  by_cases hj : j < 64
  · by_cases e : i / 4 = j
    · subst e
      rw [List.getElem?_set_self (by rw [length_packW]; omega), getD_packW _ _ _ hj]
      unfold packW
      rw [List.getElem?_map, List.getElem?_range hj]
      simp only [Option.map_some, Option.some.injEq]
      have e1 : bl.take (i + 1) = bl.take i ++ [bl.getD i 0] := by
        rw [List.take_succ_eq_append_getElem (by omega), getD_get _ _ _ (by omega)]
      rw [e1, List.drop_append_of_le_length (by simp; omega)]
      have e2 : ((bl.take i).drop (4 * (i / 4))).length < 4 := by simp; omega
      generalize (bl.take i).drop (4 * (i / 4)) = P at e2
      rw [List.take_of_length_le (l := P) (by omega), List.take_of_length_le (l := P ++ [bl.getD i 0]) (by simp; omega)]
      unfold wordOf
      rw [List.foldl_append]; rfl
    · rw [List.getElem?_set_ne e]
      unfold packW
      rw [List.getElem?_map, List.getElem?_map, List.getElem?_range hj]
      simp only [Option.map_some, Option.some.injEq]
      congr 1
      have e1 : bl.take (i + 1) = bl.take i ++ [bl.getD i 0] := by
        rw [List.take_succ_eq_append_getElem (by omega), getD_get _ _ _ (by omega)]
      rw [e1]
      by_cases h2 : 4 * j ≤ i
      · rw [List.drop_append_of_le_length (by simp; omega), List.take_append_of_le_length (by simp; omega)]
      · rw [List.drop_of_length_le (by simp; omega), List.drop_of_length_le (by simp; omega)]
  · rw [List.getElem?_eq_none (by simp [length_packW]; omega), List.getElem?_eq_none (by simp [length_packW]; omega)]
theorem packW_all (bl : List UInt8) (hl : bl.length = 64) : packW bl 64 = first16 bl ++ zeros 48 := by
  unfold packW first16 zeros
  rw [show List.range 64 = List.range 16 ++ (List.range 48).map (16 + ·) from by decide, List.map_append, List.take_of_length_le (by omega)]
  congr 1
  rw [List.map_map]
  rw [List.eq_replicate_iff]
  refine ⟨by simp, fun x hx => ?_⟩
  obtain ⟨k, _, rfl⟩ := List.mem_map.1 hx
  simp only [Function.comp]
  rw [List.drop_of_length_le (by omega)]
  rfl
def padW (ws : List UInt32) : List UInt32 := ws ++ zeros (64 - ws.length)
theorem length_padW (ws : List UInt32) (h : ws.length ≤ 64) : (padW ws).length = 64 := by simp [padW, zeros]; omega
theorem getD_padW (ws : List UInt32) (j : Nat) (h : j < ws.length) : (padW ws).getD j 0 = ws.getD j 0 := by
  unfold padW
  rw [List.getD_eq_getElem?_getD, List.getElem?_append_left h, ← List.getD_eq_getElem?_getD]
theorem set_padW (ws : List UInt32) (x : UInt32) (h : ws.length < 64) : (padW ws).set ws.length x = padW (ws ++ [x]) := by
  unfold padW zeros
  rw [List.set_append_right _ _ (Nat.le_refl _), Nat.sub_self]
  have : 64 - ws.length = (64 - (ws ++ [x]).length) + 1 := by simp; omega
  rw [this, List.replicate_succ]
  simp
theorem extW_padW (ws : List UInt32) (h : ws.length < 64) : (padW ws).set ws.length (nextW ws) = padW (extW ws) := set_padW ws _ h
theorem padW_full (ws : List UInt32) (h : ws.length = 64) : padW ws = ws := by simp [padW, zeros, h]
def halfW (bl : List UInt8) (i k : Nat) : List UInt32 := padW ((first16 bl).take i ++ [wordOf ((bl.drop (4 * i)).take k)])
theorem first16_get (bl : List UInt8) (i : Nat) (hi : i < 16) : (first16 bl)[i]? = some (wordOf ((bl.drop (4 * i)).take 4)) := by
  unfold first16
  rw [List.getElem?_map, List.getElem?_range hi]; rfl
theorem halfW_zero (bl : List UInt8) (i : Nat) (hi : i < 16) : halfW bl i 0 = padW ((first16 bl).take i) := by
  unfold halfW
  have hl : ((first16 bl).take i).length = i := by simp [length_first16]; omega
  have : padW ((first16 bl).take i) = (padW ((first16 bl).take i)).set i 0 := by
    unfold padW zeros
    rw [List.set_append_right _ _ (by omega), hl, Nat.sub_self, show 64 - i = (63 - i) + 1 from by omega, List.replicate_succ]; simp
  rw [this]
  have h2 := set_padW ((first16 bl).take i) 0 (by omega)
  rw [hl] at h2
  rw [h2]
  simp [wordOf]
theorem halfW_four (bl : List UInt8) (i : Nat) (hi : i < 16) : halfW bl i 4 = padW ((first16 bl).take (i + 1)) := by
  unfold halfW
  congr 1
  have h : i < (first16 bl).length := by rw [length_first16]; exact hi
  rw [List.take_succ_eq_append_getElem h]
  have := first16_get bl i hi
  rw [List.getElem?_eq_getElem h] at this
  injection this with this
  rw [this]
theorem length_halfW (bl : List UInt8) (i k : Nat) (hi : i < 16) : (halfW bl i k).length = 64 := by
  unfold halfW; apply length_padW; simp [length_first16]; omega
theorem halfW_get (bl : List UInt8) (i k : Nat) (hi : i < 16) : (halfW bl i k).getD i 0 = wordOf ((bl.drop (4 * i)).take k) := by
  unfold halfW
  have hl : ((first16 bl).take i).length = i := by simp [length_first16]; omega
  rw [getD_padW _ _ (by simp [hl]), List.getD_eq_getElem?_getD, List.getElem?_append_right (by omega), hl]
  simp
theorem halfW_step (bl : List UInt8) (i k : Nat) (hi : i < 16) (hk : k < 4) (hl : bl.length = 64) : (halfW bl i k).set i (wadd ((halfW bl i k).getD i 0) (bl.getD (4 * i + k) 0)) = halfW bl i (k + 1) := by
  rw [halfW_get _ _ _ hi]
  have hl' : ((first16 bl).take i).length = i := by simp [length_first16]; omega
  have e1 : (bl.drop (4 * i)).take (k + 1) = (bl.drop (4 * i)).take k ++ [bl.getD (4 * i + k) 0] := by
    rw [List.take_succ_eq_append_getElem (by simp; omega), getD_get _ _ _ (by omega)]
    simp
  unfold halfW
  rw [e1]
  have e2 : wordOf ((bl.drop (4 * i)).take k ++ [bl.getD (4 * i + k) 0]) = wadd (wordOf ((bl.drop (4 * i)).take k)) (bl.getD (4 * i + k) 0) := by
    unfold wordOf; rw [List.foldl_append]; rfl
  rw [e2]
  unfold padW
  rw [List.set_append_left _ _ (by simp [hl']), List.set_append_right _ _ (by omega), hl']
  simp
theorem bsig0_mix (x : UInt32) : bsig0 x = mixZ x 2 13 22 false := rfl
theorem bsig1_mix (x : UInt32) : bsig1 x = mixZ x 6 11 25 false := rfl
def addWords (v u : Words) : Words := ⟨v.a + u.a, v.b + u.b, v.c + u.c, v.d + u.d, v.e + u.e, v.f + u.f, v.g + u.g, v.h + u.h⟩
def roundsN (ks ws : List UInt32) (v : Words) : Nat → Words
  | 0 => v
  | i + 1 => roundOf (roundsN ks ws v i) (ws.getD i 0 + ks.getD i 0)
def pressOf (ks : List UInt32) (v : Words) (bl : List UInt8) : Words := addWords (roundsN ks (sched bl) v 64) v
def pressN (ks : List UInt32) (v : Words) (all : List UInt8) : Nat → Words
  | 0 => v
  | k + 1 => pressOf ks (pressN ks v all k) ((all.drop (64 * k)).take 64)
def bytesOf (x : UInt32) : List UInt8 := [(x >>> UInt32.ofNat 24).toUInt8, (x >>> UInt32.ofNat 16).toUInt8, (x >>> UInt32.ofNat 8).toUInt8, x.toUInt8]
def lenB (n : Nat) : List UInt8 := (List.range 8).map fun i => UInt8.ofNat (8 * n / 2 ^ (56 - 8 * i))
def tailOf (n : Nat) : List UInt8 := [128] ++ List.replicate ((119 - n % 64) % 64) 0 ++ lenB n
theorem length_tailOf (n : Nat) : (tailOf n).length = 9 + (119 - n % 64) % 64 := by simp [tailOf, lenB]; omega
theorem whole_tailOf (n : Nat) : (n + (tailOf n).length) % 64 = 0 := by rw [length_tailOf]; omega
def begin8 : Words := ⟨0x6a09e667, 0xbb67ae85, 0x3c6ef372, 0xa54ff53a, 0x510e527f, 0x9b05688c, 0x1f83d9ab, 0x5be0cd19⟩
def digest (ks : List UInt32) (v : Words) (l : List UInt8) : List UInt8 :=
  (pressN ks v (l ++ tailOf l.length) ((l.length + (tailOf l.length).length) / 64)).list.flatMap bytesOf
theorem length_digest (ks v l) : (digest ks v l).length = 32 := by simp [digest, Words.list, bytesOf]
theorem top_done (z : UInt32) : UInt32.ofNat (top z 32) = z := by rw [top_all]; simp
end Go.Ch
end
section
set_option linter.unusedVariables false
set_option linter.unusedSimpArgs false
namespace Go.Proofs.YtamddohbpdbdmaaDoor
open Go.RowKit Go.Ch
theorem infoU8 : (Tryd.prog.info? 5).map (fun i => (i.zero, i.size, i.bytes)) = some (some (.int .u8 0), 1, 1) := by kernel_rfl
theorem infoU32 : (Tryd.prog.info? 28).map (fun i => (i.zero, i.size, i.bytes)) = some (some (.int .u32 0), 1, 4) := by kernel_rfl
theorem infoW8 : (Tryd.prog.info? 29).map (fun i => (i.zero, i.size, i.bytes)) = some (some (.agg ((zeros 8).map w32).toArray), 8, 32) := by kernel_rfl
theorem infoW64 : (Tryd.prog.info? 62).map (fun i => (i.zero, i.size, i.bytes)) = some (some (.agg ((zeros 64).map w32).toArray), 64, 256) := by kernel_rfl
theorem infoB64 : (Tryd.prog.info? 54).map (fun i => (i.zero, i.size, i.bytes)) = some (some (.agg ((List.replicate 64 (0 : UInt8)).map bU).toArray), 64, 64) := by kernel_rfl
theorem run_eq32b {P : Program} (t : TypeId) (ex ey : Operand) (x y : UInt32) {b : Bool} (h : (x == y) = b) (w : World) : binRun P .eql t ex ey (w32 x) (w32 y) w = .ok (.bool b) w := by
  rw [← h]; exact run_eq32 t ex ey x y w
theorem run_remi {P : Program} (t : TypeId) (ex ey : Operand) (k : IntKind) (a b : Int) (h : 0 ≤ a) (hb : 0 < b) (w : World) : binRun P .rem t ex ey (.int k a) (.int k b) w = .ok (.int k (a % b)) w := by
  have hb' : ¬ (b = 0) := by omega
  simp only [binRun, Sem.run_bind, guard_int, Result.andThen_ok]
  simp only [binOp, if_neg (show ¬ (k ≠ k) by simp), Op.intDiv, if_neg hb', Sem.run_pure]
  rw [Int.tmod_eq_emod_of_nonneg h]
theorem run_negand (n : Nat) (h0 : 0 < n) (hn : n < 32) (t : TypeId) (ex ey : Operand) (w : World) : binRun Tryd.prog .and t ex ey (.int .u64 (IntKind.u64.wrap (-(n : Int)))) (.int .u64 31) w = .ok (.int .u64 ((32 - n : Nat) : Int)) w := by
  rw [show IntKind.u64.wrap (-(n : Int)) = 18446744073709551616 - (n : Int) by rw [wrap64z]; omega]
  simp only [binRun, Sem.run_bind, guard_int, Result.andThen_ok]
  simp only [binOp, if_neg (show ¬ (IntKind.u64 ≠ IntKind.u64) by simp), Op.intBits, Sem.run_pure]
  show Result.ok (Value.int .u64 (IntKind.u64.wrap ((BitVec.ofInt 64 (18446744073709551616 - (n : Int)) &&& BitVec.ofInt 64 31).toNat : Int))) w = _
  have e1 : (BitVec.ofInt 64 (18446744073709551616 - (n : Int))).toNat = 18446744073709551616 - n := by
    rw [show (18446744073709551616 - (n : Int)) = ((18446744073709551616 - n : Nat) : Int) by omega, BitVec.ofInt_natCast, BitVec.toNat_ofNat]
    omega
  have e2 : (BitVec.ofInt 64 31).toNat = 2 ^ 5 - 1 := by decide
  rw [BitVec.toNat_and, e1, e2, Nat.and_two_pow_sub_one_eq_mod, wrap64n]
  congr 3
  omega
set_option maxHeartbeats 400000 in
theorem rotl_c (w : World) (x : UInt32) (n : Nat) (h0 : 0 < n) (hn : n < 32) :
    Calls Tryd.prog 46 #[w32 x, .int .i64 (-(n : Int))] w (Ret fun v w' => w' = w ∧ v = w32 (rotr x n)) := by
  go_enter Tryd.func46, Tryd.ntmps46
  go_wp2_with (first
    | ((with_reducible refine g_at (d := 8) ?_); refine wpl_bin rfl rfl (by exact run_negand n h0 hn _ _ _ _) ?_; try (conv in (Act.put _ _ _) => simp only [Act.put, List.setIfInBounds_toArray, List.set_cons_succ, List.set_cons_zero]))
    | ((with_reducible refine g_at (d := 11) ?_); refine wpl_bin rfl rfl (by exact run_shl32 _ _ _ _ _ (32 - n) (by omega) _) ?_; try (conv in (Act.put _ _ _) => simp only [Act.put, List.setIfInBounds_toArray, List.set_cons_succ, List.set_cons_zero]))
    | ((with_reducible refine g_at (d := 15) ?_); refine wpl_bin rfl rfl (by rw [show (32 - ((32 - n : Nat) : Int)) = (n : Int) by omega]; exact run_shr32 _ _ _ _ _ n hn _) ?_; try (conv in (Act.put _ _ _) => simp only [Act.put, List.setIfInBounds_toArray, List.set_cons_succ, List.set_cons_zero]))
    | ((with_reducible refine g_at (d := 14) ?_); refine wpl_bin rfl rfl (by exact Go.Ch.run_sub64 _ _ _ 32 _ _) ?_; try (conv in (Act.put _ _ _) => simp only [Act.put, List.setIfInBounds_toArray, List.set_cons_succ, List.set_cons_zero]))
    | ((with_reducible refine g_at (d := 16) ?_); refine wpl_bin rfl rfl (by exact Go.Ch.run_or32 _ _ _ _ _ _) ?_; try (conv in (Act.put _ _ _) => simp only [Act.put, List.setIfInBounds_toArray, List.set_cons_succ, List.set_cons_zero])))
  go_ret
  exact ⟨_, rfl, rfl, rfl⟩
theorem roll_c (w : World) (x : UInt32) (n : Nat) (h0 : 0 < n) (hn : n < 32) :
    Calls Tryd.prog 41 #[w32 x, .int .i64 (n : Int)] w (Ret fun v w' => w' = w ∧ v = w32 (rotr x n)) := by
  go_enter Tryd.func41, Tryd.ntmps41
  go_wp2_with (first
    | ((with_reducible refine g_at (d := 8) ?_); refine wpl_call Tryd.func46 (by kernel_rfl) (by kernel_rfl) rfl (rotl_c _ x n h0 hn) ?_; rintro v8 w8 ⟨rfl, rfl⟩; try (conv in (Act.put _ _ _) => simp only [Act.put, List.setIfInBounds_toArray, List.set_cons_succ, List.set_cons_zero])))
  go_ret
  exact ⟨_, rfl, rfl, rfl⟩
set_option maxHeartbeats 400000 in
theorem bit_c (w : World) (x : UInt32) (i : Int) (h0 : -32 ≤ i) (hi : i < 32) :
    Calls Tryd.prog 47 #[w32 x, .int .i64 i] w (Ret fun v w' => w' = w ∧ v = w32 (UInt32.ofNat (bitI x i))) := by
  by_cases h : i < 0
  · have hb : Hid (bitI x i = 0) := Lib.hid (by unfold bitI; rw [if_pos h])
    go_enter Tryd.func47, Tryd.ntmps47
    go_wp2
    go_ret
    exact ⟨_, rfl, rfl, by rw [hb.out]; rfl⟩
  · obtain ⟨k, rfl⟩ : ∃ k : Nat, i = k := ⟨i.toNat, by omega⟩
    go_enter Tryd.func47, Tryd.ntmps47
    go_wp2_with (first
      | ((with_reducible refine g_at (d := 10) ?_); refine wpl_bin rfl rfl (by rw [show (31 - (k : Int)) = ((31 - k : Nat) : Int) by omega]; exact run_shr32 _ _ _ _ _ (31 - k) (by omega) _) ?_; try (conv in (Act.put _ _ _) => simp only [Act.put, List.setIfInBounds_toArray, List.set_cons_succ, List.set_cons_zero]))
      | ((with_reducible refine g_at (d := 11) ?_); refine wpl_bin rfl rfl (by exact Go.Ch.run_and32 _ _ _ _ 1 _) ?_; try (conv in (Act.put _ _ _) => simp only [Act.put, List.setIfInBounds_toArray, List.set_cons_succ, List.set_cons_zero])))
    go_ret
    exact ⟨_, rfl, rfl, by rw [bitI_nat, ← shr_and_one x k (by omega)]; rfl⟩
set_option maxHeartbeats 1000000 in
theorem majority_c (w : World) (x y z : UInt32) :
    Calls Tryd.prog 44 #[w32 x, w32 y, w32 z] w (Ret fun v w' => w' = w ∧ v = w32 (maj x y z)) := by
  go_enter Tryd.func44, Tryd.ntmps44
  go_wp2_with fail
  go_loopw [7, 8] (fun o i wr => ∃ k : Nat, k ≤ 32 ∧ i = .int .i64 k ∧ o = w32 (UInt32.ofNat (top (maj x y z) k)) ∧ wr = w) (fun _ i _ => 32 - (intOf i).toNat)
  case atStart => exact ⟨0, by omega, rfl, by rw [top_zero]; rfl, by first | rfl | trivial⟩
  case round =>
    obtain ⟨k, hk, rfl, rfl, rfl⟩ := hrel
    by_cases hlt : k < 32
    · have hb1 := bitI_lt x k
      have hb2 := bitI_lt y k
      have hb3 := bitI_lt z k
      go_wp2_with (first
        | ((with_reducible refine g_at (d := 17) ?_); refine wpl_call Tryd.func47 (by kernel_rfl) (by kernel_rfl) rfl (bit_c _ x (k : Int) (by omega) (by omega)) ?_; rintro v17 w17 ⟨rfl, rfl⟩; try (conv in (Act.put _ _ _) => simp only [Act.put, List.setIfInBounds_toArray, List.set_cons_succ, List.set_cons_zero]))
        | ((with_reducible refine g_at (d := 20) ?_); refine wpl_call Tryd.func47 (by kernel_rfl) (by kernel_rfl) rfl (bit_c _ y (k : Int) (by omega) (by omega)) ?_; rintro v20 w20 ⟨rfl, rfl⟩; try (conv in (Act.put _ _ _) => simp only [Act.put, List.setIfInBounds_toArray, List.set_cons_succ, List.set_cons_zero]))
        | ((with_reducible refine g_at (d := 24) ?_); refine wpl_call Tryd.func47 (by kernel_rfl) (by kernel_rfl) rfl (bit_c _ z (k : Int) (by omega) (by omega)) ?_; rintro v24 w24 ⟨rfl, rfl⟩; try (conv in (Act.put _ _ _) => simp only [Act.put, List.setIfInBounds_toArray, List.set_cons_succ, List.set_cons_zero]))
        | ((with_reducible refine g_at (d := 14) ?_); refine wpl_bin rfl rfl (by exact Go.Ch.run_mul32 _ _ _ _ 2 _) ?_; try (conv in (Act.put _ _ _) => simp only [Act.put, List.setIfInBounds_toArray, List.set_cons_succ, List.set_cons_zero]))
        | ((with_reducible refine g_at (d := 21) ?_); refine wpl_bin rfl rfl (by exact Go.Ch.run_add32 _ _ _ _ _ _) ?_; try (conv in (Act.put _ _ _) => simp only [Act.put, List.setIfInBounds_toArray, List.set_cons_succ, List.set_cons_zero]))
        | ((with_reducible refine g_at (d := 25) ?_); refine wpl_bin rfl rfl (by exact Go.Ch.run_add32 _ _ _ _ _ _) ?_; try (conv in (Act.put _ _ _) => simp only [Act.put, List.setIfInBounds_toArray, List.set_cons_succ, List.set_cons_zero]))
        | ((with_reducible refine g_at (d := 26) ?_); refine wpl_bin rfl rfl (by exact Go.Ch.run_quo32 _ _ _ _ 2 (by decide) _) ?_; try (conv in (Act.put _ _ _) => simp only [Act.put, List.setIfInBounds_toArray, List.set_cons_succ, List.set_cons_zero]))
        | ((with_reducible refine g_at (d := 27) ?_); refine wpl_bin rfl rfl (by exact Go.Ch.run_add32 _ _ _ _ _ _) ?_; try (conv in (Act.put _ _ _) => simp only [Act.put, List.setIfInBounds_toArray, List.set_cons_succ, List.set_cons_zero])))
      go_roundw
      case rel =>
        refine ⟨k + 1, by omega, by go_num, ?_, trivial⟩
        congr 1
        refine build_step _ k hlt _ ?_
        rw [three_half hb1 hb2 hb3, maj_bit, bitI_nat, bitI_nat, bitI_nat]
      case measure => simp [intOf]; omega
    · obtain rfl : k = 32 := by omega
      go_wp2
      go_ret
      exact ⟨_, rfl, rfl, by rw [top_done]; rfl⟩
set_option maxHeartbeats 1000000 in
theorem choice_c (w : World) (x y z : UInt32) :
    Calls Tryd.prog 43 #[w32 x, w32 y, w32 z] w (Ret fun v w' => w' = w ∧ v = w32 (ch x y z)) := by
  go_enter Tryd.func43, Tryd.ntmps43
  go_wp2_with fail
  go_loopw [7, 8] (fun o i wr => ∃ k : Nat, k ≤ 32 ∧ i = .int .i64 k ∧ o = w32 (UInt32.ofNat (top (ch x y z) k)) ∧ wr = w) (fun _ i _ => 32 - (intOf i).toNat)
  case atStart => exact ⟨0, by omega, rfl, by rw [top_zero]; rfl, by first | rfl | trivial⟩
  case round =>
    obtain ⟨k, hk, rfl, rfl, rfl⟩ := hrel
    by_cases hlt : k < 32
    · have hb1 := bitI_lt x k
      have hb2 := bitI_lt y k
      have hb3 := bitI_lt z k
      by_cases he : hiBit x k = 1
      · have hd : (UInt32.ofNat (bitI x (k : Int)) == 1) = true := by rw [bitI_nat, he]; rfl
        have HE := Lib.hid he
        clear he
        go_wp2_with (first
          | ((with_reducible refine g_at (d := 16) ?_); refine wpl_call Tryd.func47 (by kernel_rfl) (by kernel_rfl) rfl (bit_c _ z (k : Int) (by omega) (by omega)) ?_; rintro v16 w16 ⟨rfl, rfl⟩; try (conv in (Act.put _ _ _) => simp only [Act.put, List.setIfInBounds_toArray, List.set_cons_succ, List.set_cons_zero]))
          | ((with_reducible refine g_at (d := 19) ?_); refine wpl_call Tryd.func47 (by kernel_rfl) (by kernel_rfl) rfl (bit_c _ x (k : Int) (by omega) (by omega)) ?_; rintro v19 w19 ⟨rfl, rfl⟩; try (conv in (Act.put _ _ _) => simp only [Act.put, List.setIfInBounds_toArray, List.set_cons_succ, List.set_cons_zero]))
          | ((with_reducible refine g_at (d := 20) ?_); refine wpl_bin rfl rfl (by exact run_eq32b _ _ _ _ 1 hd _) ?_; try (conv in (Act.put _ _ _) => simp only [Act.put, List.setIfInBounds_toArray, List.set_cons_succ, List.set_cons_zero]))
          | ((with_reducible refine g_at (d := 23) ?_); refine wpl_call Tryd.func47 (by kernel_rfl) (by kernel_rfl) rfl (bit_c _ y (k : Int) (by omega) (by omega)) ?_; rintro v23 w23 ⟨rfl, rfl⟩; try (conv in (Act.put _ _ _) => simp only [Act.put, List.setIfInBounds_toArray, List.set_cons_succ, List.set_cons_zero]))
          | ((with_reducible refine g_at (d := 25) ?_); refine wpl_bin rfl rfl (by exact Go.Ch.run_mul32 _ _ _ _ 2 _) ?_; try (conv in (Act.put _ _ _) => simp only [Act.put, List.setIfInBounds_toArray, List.set_cons_succ, List.set_cons_zero]))
          | ((with_reducible refine g_at (d := 27) ?_); refine wpl_bin rfl rfl (by exact Go.Ch.run_add32 _ _ _ _ _ _) ?_; try (conv in (Act.put _ _ _) => simp only [Act.put, List.setIfInBounds_toArray, List.set_cons_succ, List.set_cons_zero])))
        go_roundw
        case rel =>
          refine ⟨k + 1, by omega, by go_num, ?_, trivial⟩
          congr 1
          refine build_step _ k hlt _ ?_
          rw [ch_bit _ _ _ _ hlt, if_pos HE.out, bitI_nat]
          exact ofNat_toNat32 (by have := hiBit_lt y k; omega)
        case measure => simp [intOf]; omega
      · have hd : (UInt32.ofNat (bitI x (k : Int)) == 1) = false := by
          have h2 := hiBit_lt x k
          rw [bitI_nat, show hiBit x k = 0 by omega]; rfl
        have HE := Lib.hid he
        clear he
        go_wp2_with (first
          | ((with_reducible refine g_at (d := 16) ?_); refine wpl_call Tryd.func47 (by kernel_rfl) (by kernel_rfl) rfl (bit_c _ z (k : Int) (by omega) (by omega)) ?_; rintro v16 w16 ⟨rfl, rfl⟩; try (conv in (Act.put _ _ _) => simp only [Act.put, List.setIfInBounds_toArray, List.set_cons_succ, List.set_cons_zero]))
          | ((with_reducible refine g_at (d := 19) ?_); refine wpl_call Tryd.func47 (by kernel_rfl) (by kernel_rfl) rfl (bit_c _ x (k : Int) (by omega) (by omega)) ?_; rintro v19 w19 ⟨rfl, rfl⟩; try (conv in (Act.put _ _ _) => simp only [Act.put, List.setIfInBounds_toArray, List.set_cons_succ, List.set_cons_zero]))
          | ((with_reducible refine g_at (d := 20) ?_); refine wpl_bin rfl rfl (by exact run_eq32b _ _ _ _ 1 hd _) ?_; try (conv in (Act.put _ _ _) => simp only [Act.put, List.setIfInBounds_toArray, List.set_cons_succ, List.set_cons_zero]))
          | ((with_reducible refine g_at (d := 25) ?_); refine wpl_bin rfl rfl (by exact Go.Ch.run_mul32 _ _ _ _ 2 _) ?_; try (conv in (Act.put _ _ _) => simp only [Act.put, List.setIfInBounds_toArray, List.set_cons_succ, List.set_cons_zero]))
          | ((with_reducible refine g_at (d := 27) ?_); refine wpl_bin rfl rfl (by exact Go.Ch.run_add32 _ _ _ _ _ _) ?_; try (conv in (Act.put _ _ _) => simp only [Act.put, List.setIfInBounds_toArray, List.set_cons_succ, List.set_cons_zero])))
        go_roundw
        case rel =>
          refine ⟨k + 1, by omega, by go_num, ?_, trivial⟩
          congr 1
          refine build_step _ k hlt _ ?_
          rw [ch_bit _ _ _ _ hlt, if_neg HE.out, bitI_nat]
          exact ofNat_toNat32 (by have := hiBit_lt z k; omega)
        case measure => simp [intOf]; omega
    · obtain rfl : k = 32 := by omega
      go_wp2
      go_ret
      exact ⟨_, rfl, rfl, by rw [top_done]; rfl⟩
set_option maxHeartbeats 1000000 in
theorem mixed_c (w : World) (x : UInt32) (a b c : Nat) (push : Bool) (ha0 : 0 < a) (ha : a < 32) (hb0 : 0 < b) (hb : b < 32) (hc0 : 0 < c) (hc : c < 32) :
    Calls Tryd.prog 42 #[w32 x, .int .i64 a, .int .i64 b, .int .i64 c, .bool push] w (Ret fun v w' => w' = w ∧ v = w32 (mixZ x a b c push)) := by
  generalize hz : mixZ x a b c push = z
  have HZ := Lib.hid hz
  clear hz
  cases push
  all_goals
    go_enter Tryd.func42, Tryd.ntmps42
    go_wp2_with fail
    go_loopw [11, 12] (fun o i wr => ∃ k : Nat, k ≤ 32 ∧ i = .int .i64 k ∧ o = w32 (UInt32.ofNat (top z k)) ∧ wr = w) (fun _ i _ => 32 - (intOf i).toNat)
    case atStart => exact ⟨0, by omega, rfl, by rw [top_zero]; rfl, by first | rfl | trivial⟩
    case round =>
      obtain ⟨k, hk, rfl, rfl, rfl⟩ := hrel
      by_cases hlt : k < 32
      · have hb1 := bitI_lt x (((k : Int) - a) % 32)
        have hb2 := bitI_lt x (((k : Int) - b) % 32)
        have hb3 := bitI_lt x (((k : Int) - c) % 32)
        have hb4 := bitI_lt x ((k : Int) - c)
        go_wp2_with (first
          | ((with_reducible refine g_at (d := 30) ?_); refine wpl_bin rfl rfl (by exact run_remi _ _ _ _ _ _ (by omega) (by omega) _) ?_; try (conv in (Act.put _ _ _) => simp only [Act.put, List.setIfInBounds_toArray, List.set_cons_succ, List.set_cons_zero]))
          | ((with_reducible refine g_at (d := 39) ?_); refine wpl_bin rfl rfl (by exact run_remi _ _ _ _ _ _ (by omega) (by omega) _) ?_; try (conv in (Act.put _ _ _) => simp only [Act.put, List.setIfInBounds_toArray, List.set_cons_succ, List.set_cons_zero]))
          | ((with_reducible refine g_at (d := 46) ?_); refine wpl_bin rfl rfl (by exact run_remi _ _ _ _ _ _ (by omega) (by omega) _) ?_; try (conv in (Act.put _ _ _) => simp only [Act.put, List.setIfInBounds_toArray, List.set_cons_succ, List.set_cons_zero]))
          | ((with_reducible refine g_at (d := 22) ?_); refine wpl_call Tryd.func47 (by kernel_rfl) (by kernel_rfl) rfl (bit_c _ x ((k : Int) - c) (by omega) (by omega)) ?_; rintro v22 w22 ⟨rfl, rfl⟩; try (conv in (Act.put _ _ _) => simp only [Act.put, List.setIfInBounds_toArray, List.set_cons_succ, List.set_cons_zero]))
          | ((with_reducible refine g_at (d := 31) ?_); refine wpl_call Tryd.func47 (by kernel_rfl) (by kernel_rfl) rfl (bit_c _ x (((k : Int) - c + 32) % 32) (by omega) (by omega)) ?_; rintro v31 w31 ⟨rfl, rfl⟩; try (conv in (Act.put _ _ _) => simp only [Act.put, List.setIfInBounds_toArray, List.set_cons_succ, List.set_cons_zero]))
          | ((with_reducible refine g_at (d := 40) ?_); refine wpl_call Tryd.func47 (by kernel_rfl) (by kernel_rfl) rfl (bit_c _ x (((k : Int) - a + 32) % 32) (by omega) (by omega)) ?_; rintro v40 w40 ⟨rfl, rfl⟩; try (conv in (Act.put _ _ _) => simp only [Act.put, List.setIfInBounds_toArray, List.set_cons_succ, List.set_cons_zero]))
          | ((with_reducible refine g_at (d := 47) ?_); refine wpl_call Tryd.func47 (by kernel_rfl) (by kernel_rfl) rfl (bit_c _ x (((k : Int) - b + 32) % 32) (by omega) (by omega)) ?_; rintro v47 w47 ⟨rfl, rfl⟩; try (conv in (Act.put _ _ _) => simp only [Act.put, List.setIfInBounds_toArray, List.set_cons_succ, List.set_cons_zero]))
          | ((with_reducible refine g_at (d := 33) ?_); refine wpl_bin rfl rfl (by exact Go.Ch.run_mul32 _ _ _ _ 2 _) ?_; try (conv in (Act.put _ _ _) => simp only [Act.put, List.setIfInBounds_toArray, List.set_cons_succ, List.set_cons_zero]))
          | ((with_reducible refine g_at (d := 48) ?_); refine wpl_bin rfl rfl (by exact Go.Ch.run_add32 _ _ _ _ _ _) ?_; try (conv in (Act.put _ _ _) => simp only [Act.put, List.setIfInBounds_toArray, List.set_cons_succ, List.set_cons_zero]))
          | ((with_reducible refine g_at (d := 50) ?_); refine wpl_bin rfl rfl (by exact Go.Ch.run_add32 _ _ _ _ _ _) ?_; try (conv in (Act.put _ _ _) => simp only [Act.put, List.setIfInBounds_toArray, List.set_cons_succ, List.set_cons_zero]))
          | ((with_reducible refine g_at (d := 51) ?_); refine wpl_bin rfl rfl (by exact Go.Ch.run_rem32 _ _ _ _ 2 (by decide) _) ?_; try (conv in (Act.put _ _ _) => simp only [Act.put, List.setIfInBounds_toArray, List.set_cons_succ, List.set_cons_zero]))
          | ((with_reducible refine g_at (d := 52) ?_); refine wpl_bin rfl rfl (by exact Go.Ch.run_add32 _ _ _ _ _ _) ?_; try (conv in (Act.put _ _ _) => simp only [Act.put, List.setIfInBounds_toArray, List.set_cons_succ, List.set_cons_zero])))
        go_roundw
        case rel =>
          refine ⟨k + 1, by omega, by go_num, ?_, trivial⟩
          congr 1
          refine build_step _ k hlt _ ?_
          rw [← HZ.out, mix_bit x a b c _ ha0 ha hb0 hb hc0 hc k hlt]
          simp only [Int.add_emod_right]
          first
            | exact three_bits hb1 hb2 hb3
            | exact three_bits hb1 hb2 hb4
        case measure => simp [intOf]; omega
      · obtain rfl : k = 32 := by omega
        go_wp2
        go_ret
        exact ⟨_, rfl, rfl, by rw [top_done]; rfl⟩
end Go.Proofs.YtamddohbpdbdmaaDoor
end
