import Derived.Test.YtobfglafchoipaaZ1
import Derived.Test.YtobfglafchoipaaRows
import Derived.Test.YtobfglafchoipaaChecked
import Derived.WalkKit
import Derived.ProofKit
import Derived.OpenShut
import Derived.ShutString
import Derived.ChangeOld
import Derived.Below
import Derived.Test.YtobfglafchoipaaProg
import Derived.Lib.MakeNoZero
import Derived.Laws.Externs
set_option linter.unusedVariables false
set_option linter.unusedSimpArgs false
section
namespace Go.Sx
open Go.RowKit Go.Ch
section
variable {P : Program} {T : Tab} {ft : Nat → FT} {ρ ρ' : Pls} {w w' : World} {bs : Bs} {w0 : World} {s s' : S} {a : Act} {N m : Nat}
def pC (q : Nat → Bool) : Cl → Bool
 | .wh i => q i
 | .sl i _ _ => q i
 | .pt i _ => q i
 | .dv i _ => q i
 | .dq i _ _ _ _ => q i
 | .fp _ i _ => q i
 | .pre i _ => q i
 | _ => true
def pL (q : Nat → Bool) : List Cl → Bool
 | [] => true
 | c :: l => pC q c && pL q l
def pX (q : Nat → Bool) : Cs → Bool
 | .c l => pL q l
 | _ => true
def p1 (q : Nat → Bool) : A1 → Bool
 | .c x => pC q x
 | .g _ cs => pX q cs
def p1s (q : Nat → Bool) : List A1 → Bool
 | [] => true
 | x :: l => p1 q x && p1s q l
def pA (q : Nat → Bool) : AV → Bool
 | .c x => pC q x
 | .g _ cs => pX q cs
 | .t xs => p1s q xs
variable {q : Nat → Bool}
theorem pC_ok (hρ : ∀ i, q i = true → ρ' i = ρ i) {c : Cl} (h : pC q c = true) {v : Value} (hv : clR ρ c v) : clR ρ' c v := by
 cases c with
 | wh i => simp only [pC] at h; simp only [clR, hρ i h] at hv ⊢; exact hv
 | sl i lo n => simp only [pC] at h; simp only [clR, hρ i h] at hv ⊢; exact hv
 | pt i off => simp only [pC] at h; simp only [clR, hρ i h] at hv ⊢; exact hv
 | dv i p => simp only [pC] at h; simp only [clR, hρ i h] at hv ⊢; exact hv
 | dq i p k f sz => simp only [pC] at h; simp only [clR, hρ i h] at hv ⊢; exact hv
 | fp f i off => simp only [pC] at h; simp only [clR, hρ i h] at hv ⊢; exact hv
 | pre i n => simp only [pC] at h; simp only [clR, hρ i h] at hv ⊢; exact hv
 | s x => exact hv
 | nils => exact hv
 | junk => exact hv
theorem pL_mem : ∀ {l : List Cl}, pL q l = true → ∀ c ∈ l, pC q c = true
 | [], _, c, hc => by cases hc
 | x :: l, h, c, hc => by
  simp only [pL, Bool.and_eq_true] at h
  rcases List.mem_cons.1 hc with rfl | hc
  ·exact h.1
  ·exact pL_mem h.2 c hc
theorem pX_ok (hρ : ∀ i, q i = true → ρ' i = ρ i) {cs : Cs} (h : pX q cs = true) {vs : List Value} (hv : csR ρ cs vs) : csR ρ' cs vs := by
 cases cs with
 | c l => exact F2.mono hv (fun c hc v hr => pC_ok hρ (pL_mem h c hc) hr)
 | b l => exact csR_b.2 (csR_b.1 hv)
 | w l => exact csR_w.2 (csR_w.1 hv)
 | q l => exact csR_q.2 (csR_q.1 hv)
 | z l => exact csR_z.2 (csR_z.1 hv)
 | d x l => exact csR_d.2 (csR_d.1 hv)
theorem p1_ok (hρ : ∀ i, q i = true → ρ' i = ρ i) {x : A1} (h : p1 q x = true) {v : Value} (hv : a1R ρ x v) : a1R ρ' x v := by
 cases x with
 | c x => exact pC_ok hρ h hv
 | g n cs => obtain ⟨vs, hc, hn, he⟩ := hv; exact ⟨vs, pX_ok hρ h hc, hn, he⟩
theorem p1s_mem : ∀ {l : List A1}, p1s q l = true → ∀ c ∈ l, p1 q c = true
 | [], _, c, hc => by cases hc
 | x :: l, h, c, hc => by
  simp only [p1s, Bool.and_eq_true] at h
  rcases List.mem_cons.1 hc with rfl | hc
  ·exact h.1
  ·exact p1s_mem h.2 c hc
theorem pA_ok (hρ : ∀ i, q i = true → ρ' i = ρ i) {x : AV} (h : pA q x = true) {v : Value} (hv : avR ρ x v) : avR ρ' x v := by
 cases x with
 | c x => exact pC_ok hρ h hv
 | g n cs => obtain ⟨vs, hc, hn, he⟩ := hv; exact ⟨vs, pX_ok hρ h hc, hn, he⟩
 | t xs => obtain ⟨vs, hc, he⟩ := hv; exact ⟨vs, F2.mono hc (fun c hc v hr => p1_ok hρ (p1s_mem h c hc) hr), he⟩
theorem objR_p (hρ : ∀ i, q i = true → ρ' i = ρ i) {p : Pl} {o : Oj} (h : pX q o.cs = true) (hv : objR ρ w p o) : objR ρ' w p o := by
 unfold objR at hv ⊢
 cases hk : o.kd with
 | dead => exact True.intro
 | ro fs => simp only [hk] at hv ⊢; obtain ⟨h0, h1, vs, hc, hA⟩ := hv; exact ⟨h0, h1, vs, pX_ok hρ h hc, hA⟩
 | row => simp only [hk] at hv ⊢; obtain ⟨h0, vs, hc, hA⟩ := hv; exact ⟨h0, vs, pX_ok hρ h hc, hA⟩
 | blk => simp only [hk] at hv ⊢; obtain ⟨h0, b, vs, hA, hc, hB⟩ := hv; exact ⟨h0, b, vs, hA, pX_ok hρ h hc, hB⟩
 | dp => simp only [hk] at hv ⊢; exact hv
def ltq (m : Nat) : Nat → Bool := fun j => decide (j < m)
def ltq1 (m i : Nat) : Nat → Bool := fun j => decide (j < m) || Nat.beq j i
structure Fe where
 av : AV
 nw : Option (Nat × Oj)
def feR (ρ : Pls) (w0 : World) (x : Fe) (v : Value) (w : World) : Prop := match x.nw with
 | none => avR ρ x.av v
 | some (i, o) => ∃ p, objR ρ w p o ∧ (∀ g, objAt p o g → w0.heap.size ≤ g ∨ o.kd = .ro false) ∧ avR (upd ρ i p) x.av v
theorem objR_ext {p : Pl} {o : Oj} (h : objR ρ w p o) (hx : Ext w w') : objR ρ w' p o := h.keep fun g hlt _ => hx.block g hlt
theorem feR_ext {x : Fe} {v : Value} (hx : Ext w w') (h : feR ρ w0 x v w) : feR ρ w0 x v w' := by
 unfold feR at h ⊢
 cases hn : x.nw with
 | none => simp only [hn] at h ⊢; exact h
 | some io => obtain ⟨i, o⟩ := io; simp only [hn] at h ⊢; obtain ⟨p, h1, h2, h3⟩ := h; exact ⟨p, objR_ext h1 hx, h2, h3⟩
abbrev FrN := List (Nat × Fe)
def aeN (fr : FrN) (gl : Fr) : Operand → Option AV
 | .tmp t => match fr.lookup t with | some x => some x.av | none => none
 | .const v => cv v
 | .global g => glk gl g
 | .func f => some (.c (.s (.v (.func (.func f) #[] #[]))))
def nws (fr : FrN) : List Operand → List (Nat × Nat × Oj)
 | [] => []
 | .tmp t :: l => (match fr.lookup t with
  | some x => (match x.nw with
   | some (i, o) => (match (nws fr l).any (fun y => Nat.beq y.1 t) with | true => nws fr l | false => (t, i, o) :: nws fr l)
   | none => nws fr l)
  | none => nws fr l)
 | _ :: l => nws fr l
def atN (acc : List (Nat × Nat × Oj)) (i : Nat) : Oj := match acc.find? (fun y => Nat.beq y.2.1 i) with | some y => y.2.2 | none => ⟨.dead, 0, 0, 0, .b []⟩
def padN (acc : List (Nat × Nat × Oj)) (m : Nat) : Nat → Hp
 | 0 => []
 | k + 1 => padN acc m k ++ [atN acc (m + k)]
theorem padN_len (acc : List (Nat × Nat × Oj)) (m : Nat) : ∀ k, (padN acc m k).length = k
 | 0 => rfl
 | k + 1 => by simp [padN, padN_len acc m k]
theorem padN_at (acc : List (Nat × Nat × Oj)) (m : Nat) : ∀ {k j : Nat} {o : Oj}, (padN acc m k)[j]? = some o → o = atN acc (m + j)
 | 0, j, o, h => by simp [padN] at h
 | k + 1, j, o, h => by
  simp only [padN] at h
  by_cases hj : j < k
  ·rw [List.getElem?_append_left (by rw [padN_len]; exact hj)] at h
   exact padN_at acc m h
  ·rw [List.getElem?_append_right (by rw [padN_len]; omega), padN_len] at h
   cases hk : j - k with
   | zero => rw [hk] at h; simp at h; rw [← h, show j = k by omega]
   | succ z => rw [hk] at h; simp at h
structure Ns where
 fr : FrN
 cnt : Nat
 dm : Bool
def putN (fr : FrN) (d : Option Nat) (x : Fe) : FrN := match d with
 | some d => (d, x) :: fr.filter (fun p => !(p.1 == d))
 | none => fr
def idsN (acc : List (Nat × Nat × Oj)) : List Nat := acc.map fun y => y.2.1
def newOf (m : Nat) (z : AV) : List (Nat × Nat × Oj) → Option (Option (Nat × Oj))
 | [] => match pA (ltq m) z with | true => some none | false => none
 | y :: l => match pA (ltq m) z with
  | true => some none
  | false => match pA (ltq1 m y.2.1) z with | true => some (some (y.2.1, y.2.2)) | false => newOf m z l
def okOb (m : Nat) (o : Oj) : Bool := pX (ltq m) o.cs && (match o.kd with | .dead => false | _ => true)
def opF (l : List Operand) (fr : FrN) : FrN := fr.filter fun p => l.any fun x => match x with | .tmp t => Nat.beq t p.1 | _ => false
theorem opF_lk {l : List Operand} {fr : FrN} {t : Nat} {x : Fe} (h : (opF l fr).lookup t = some x) : fr.lookup t = some x ∧ Operand.tmp t ∈ l := by
 unfold opF at h
 induction fr with
 | nil => simp at h
 | cons p fr ih =>
  obtain ⟨k, z⟩ := p
  rw [List.filter_cons] at h
  split at h
  ·rename_i hk
   rw [List.lookup_cons] at h ⊢
   split at h
   ·rename_i e
    have e2 : t = k := by simpa using e
    subst e2
    obtain ⟨y, hy, hy2⟩ := List.any_eq_true.1 hk
    cases y with
    | tmp t2 => have := Nat.eq_of_beq_eq_true hy2; simp only at this; subst this; exact ⟨h, hy⟩
    | _ => cases hy2
   ·exact ih h
  ·rename_i hk
   obtain ⟨h1, h2⟩ := ih h
   refine ⟨?_, h2⟩
   rw [List.lookup_cons]
   split
   ·rename_i e
    have e2 : t = k := by simpa using e
    subst e2
    exact absurd (List.any_eq_true.2 ⟨_, h2, Nat.beq_refl t⟩) hk
   ·exact h1
def stN (T : Tab) (ft : FT) (s0 : S) (st : Ns) (o : Oper) : Option (List Prop × Fe × Nat × Bool) :=
 let m := s0.H.length
 let fr := opF o.op.operands.toList st.fr
 let ae := aeN fr s0.gl
 let acc := nws fr o.op.operands.toList
 let H := s0.H ++ padN acc m (st.cnt - m)
 match nodup (idsN acc) && decide (m ≤ st.cnt) with
 | false => none
 | true => match vop T H ae o.op with
  | some (g, z) => (match newOf m z acc with | some nw => some (g, ⟨z, nw⟩, st.cnt, st.dm) | none => none)
  | none => match aop T ae o.op o.type with
   | some (g, b, ob) => (match okOb m ob with | true => some (g, ⟨if b then .c (.pt st.cnt 0) else .c (.wh st.cnt), some (st.cnt, ob)⟩, st.cnt + 1, st.dm) | false => none)
   | none => match o.op with
    | .call c => (match c.callee with
     | .value (.func f) => (match ftP ft f, evs ae c.args.toList with
      | some F, some vs => (match F vs H with
       | some (g, av, objs) => (match objs with
        | [] => (match pA (ltq m) av with | true => some (g, ⟨av, none⟩, st.cnt, st.dm) | false => none)
        | [ob] => (match okOb m ob && pA (ltq1 m st.cnt) av with | true => some (g, ⟨av, some (st.cnt, ob)⟩, st.cnt + 1, st.dm || hasRo [ob]) | false => none)
        | _ => none)
       | none => none)
      | _, _ => none)
     | _ => none)
    | _ => none
def OkN (m : Nat) (st : Ns) : Prop := m ≤ st.cnt ∧ ∀ t x, st.fr.lookup t = some x → match x.nw with
 | none => pA (ltq m) x.av = true
 | some (i, o) => m ≤ i ∧ i < st.cnt ∧ okOb m o = true ∧ pA (ltq1 m i) x.av = true ∧ (o.kd = .ro false → st.dm = true)
theorem nws_mem {fr : FrN} : ∀ {l : List Operand} {y : Nat × Nat × Oj}, y ∈ nws fr l → ∃ x, Operand.tmp y.1 ∈ l ∧ fr.lookup y.1 = some x ∧ x.nw = some (y.2.1, y.2.2)
 | [], y, h => by simp [nws] at h
 | .tmp t :: l, y, h => by
  have rec_ : y ∈ nws fr l → ∃ x, Operand.tmp y.1 ∈ Operand.tmp t :: l ∧ fr.lookup y.1 = some x ∧ x.nw = some (y.2.1, y.2.2) := fun h => by
   obtain ⟨x, h1, h2, h3⟩ := nws_mem h; exact ⟨x, List.mem_cons_of_mem _ h1, h2, h3⟩
  simp only [nws] at h
  split at h
  ·rename_i x hx
   split at h
   ·rename_i i o hio
    split at h
    ·exact rec_ h
    ·rcases List.mem_cons.1 h with rfl | h
     ·exact ⟨x, by simp, hx, hio⟩
     ·exact rec_ h
   ·exact rec_ h
  ·exact rec_ h
 | .const c :: l, y, h => by obtain ⟨x, h1, h2, h3⟩ := nws_mem (l := l) (by simpa [nws] using h); exact ⟨x, List.mem_cons_of_mem _ h1, h2, h3⟩
 | .global c :: l, y, h => by obtain ⟨x, h1, h2, h3⟩ := nws_mem (l := l) (by simpa [nws] using h); exact ⟨x, List.mem_cons_of_mem _ h1, h2, h3⟩
 | .func c :: l, y, h => by obtain ⟨x, h1, h2, h3⟩ := nws_mem (l := l) (by simpa [nws] using h); exact ⟨x, List.mem_cons_of_mem _ h1, h2, h3⟩
theorem nws_has {fr : FrN} {t i : Nat} {o : Oj} {x : Fe} (hx : fr.lookup t = some x) (hn : x.nw = some (i, o)) (l : List Operand) (h : Operand.tmp t ∈ l) : (t, i, o) ∈ nws fr l := by
 induction l with
 | nil => cases h
 | cons y l ih =>
  cases y with
  | const c => simp only [List.mem_cons, reduceCtorEq, false_or] at h; exact ih h
  | global c => simp only [List.mem_cons, reduceCtorEq, false_or] at h; exact ih h
  | func c => simp only [List.mem_cons, reduceCtorEq, false_or] at h; exact ih h
  | tmp t' =>
   by_cases e : t = t'
   ·subst e
    simp only [nws, hx, hn]
    split
    ·rename_i hany
     obtain ⟨y, hy, hy1⟩ := List.any_eq_true.1 hany
     have e := Nat.eq_of_beq_eq_true hy1
     obtain ⟨x', _, hx', hn'⟩ := nws_mem hy
     rw [e, hx] at hx'; injection hx' with hx'; subst hx'
     rw [hn] at hn'; injection hn' with hn'
     obtain ⟨y1, y2, y3⟩ := y
     simp only [Prod.mk.injEq] at hn' e
     obtain ⟨rfl, rfl⟩ := hn'
     subst e; exact hy
    ·exact List.mem_cons_self
   ·have h' : Operand.tmp t ∈ l := by
     rcases List.mem_cons.1 h with e2 | h2
     ·injection e2 with e2; exact absurd e2 e
     ·exact h2
    have h3 := ih h'
    simp only [nws]
    split
    ·split
     ·split
      ·exact h3
      ·exact List.mem_cons_of_mem _ h3
     ·exact h3
    ·exact h3
theorem find_ids {acc : List (Nat × Nat × Oj)} (hnd : nodup (idsN acc) = true) {y : Nat × Nat × Oj} (hy : y ∈ acc) : acc.find? (fun z => Nat.beq z.2.1 y.2.1) = some y := by
 induction acc with
 | nil => cases hy
 | cons z acc ih =>
  simp only [idsN, List.map_cons, nodup, Bool.and_eq_true] at hnd
  rw [List.find?_cons]
  rcases List.mem_cons.1 hy with rfl | hy
  ·rw [Nat.beq_refl]
  ·split
   ·rename_i hb
    have e := Nat.eq_of_beq_eq_true hb
    have hnone : rnI (acc.map fun y => y.2.1) z.2.1 = none := by
     cases hh : rnI (acc.map fun y => y.2.1) z.2.1 with
     | none => rfl
     | some _ => rw [hh] at hnd; cases hnd.1
    obtain ⟨k, hk⟩ := List.getElem?_of_mem hy
    exact absurd (show (acc.map fun y => y.2.1)[k]? = some z.2.1 by simp [hk, e]) (rnI_none hnone k)
   ·exact ih hnd.2 hy
theorem aop_kd {ae : Operand → Option AV} {op : Op} {ty : TypeId} {g : List Prop} {b : Bool} {ob : Oj} (ha : aop T ae op ty = some (g, b, ob)) : ob.kd ≠ .ro false := by
 have key : ∀ k : Kd, (k = .row ∨ k = .blk) → k ≠ .ro false := by rintro k (rfl | rfl) <;> exact fun e => Kd.noConfusion e
 apply key
 unfold aop at ha
 split at ha <;> (repeat' split at ha) <;> first
  | (injection ha with ha; simp only [Prod.mk.injEq] at ha; obtain ⟨_, _, rfl⟩ := ha; first | exact .inl rfl | exact .inr rfl)
  | cases ha
theorem grown_ext (hg : w.grownBy w' none) : Ext w w' := ⟨hg.os, hg.tape, hg.output, hg.size, fun k hk => hg.block k hk (by simp)⟩
theorem stN_ok {s0 : S} {wB : World} (hT : TabOk P T) {ft : FT} (hF : FtOk P (Ext wB) ft) (hs : okS s0 = true) (hgl : GlR bs ρ s0.gl) (hhp : HpR ρ wB s0.H) {st : Ns} (hok : OkN s0.H.length st) {o : Oper} {g : List Prop} {x : Fe} {cnt' : Nat} {dm' : Bool} (h : stN T ft s0 st o = some (g, x, cnt', dm')) (hg : allP g) :
  (st.cnt ≤ cnt' ∧ (st.dm = true → dm' = true) ∧ (match x.nw with | none => pA (ltq s0.H.length) x.av = true | some (i, ob) => s0.H.length ≤ i ∧ i < cnt' ∧ okOb s0.H.length ob = true ∧ pA (ltq1 s0.H.length i) x.av = true ∧ (ob.kd = .ro false → dm' = true))) ∧
  ∀ (a : Act) (w : World), Ext wB w → (∀ t y, Operand.tmp t ∈ o.op.operands.toList → st.fr.lookup t = some y → feR ρ wB y (a.tmps.getD t undef) w) →
   o.wp P a w (fun a' w' => ∃ v, a' = a.put o.dst v ∧ Ext w w' ∧ feR ρ wB x v w') (fun _ _ _ => False) := by
 obtain ⟨dst, op, ty, pos, aft, gd⟩ := o
 have hq : ∀ {p : Pl} {i : Nat}, s0.H.length ≤ i → ∀ j, ltq s0.H.length j = true → upd ρ i p j = ρ j := fun hi j hj => by
  unfold ltq at hj; simp only [decide_eq_true_eq] at hj; exact upd_lt j (by omega)
 unfold stN at h
 simp only at h
 split at h
 ·cases h
 ·rename_i hnd
  simp only [Bool.and_eq_true, decide_eq_true_eq] at hnd
  obtain ⟨hnd, hmc⟩ := hnd
  generalize hacc : nws (opF op.operands.toList st.fr) op.operands.toList = acc at h hnd
  have hHl : (s0.H ++ padN acc s0.H.length (st.cnt - s0.H.length)).length = st.cnt := by rw [List.length_append, padN_len]; omega
  -- what holds once operands' new objects are placed
  have place : ∀ (a : Act) (w : World), Ext wB w → (∀ t y, Operand.tmp t ∈ op.operands.toList → st.fr.lookup t = some y → feR ρ wB y (a.tmps.getD t undef) w) →
    ∃ ρ1 : Pls, (∀ j, j < s0.H.length → ρ1 j = ρ j) ∧ HpR ρ1 w (s0.H ++ padN acc s0.H.length (st.cnt - s0.H.length)) ∧ (∀ x av, aeN (opF op.operands.toList st.fr) s0.gl x = some av → avR ρ1 av (a.eval x)) ∧
     (∀ y ∈ acc, objR ρ w (ρ1 y.2.1) y.2.2 ∧ (∀ g, objAt (ρ1 y.2.1) y.2.2 g → wB.heap.size ≤ g ∨ y.2.2.kd = .ro false)) := by
   intro a w hX hE
   have hy : ∀ y ∈ acc, ∃ p, objR ρ w p y.2.2 ∧ (∀ g, objAt p y.2.2 g → wB.heap.size ≤ g ∨ y.2.2.kd = .ro false) ∧ ∀ x, st.fr.lookup y.1 = some x → avR (upd ρ y.2.1 p) x.av (a.tmps.getD y.1 undef) := by
    intro y hy
    rw [← hacc] at hy
    obtain ⟨x, h1, h2, h3⟩ := nws_mem hy
    obtain ⟨h4, h5⟩ := opF_lk h2
    have := hE y.1 x h5 h4
    unfold feR at this
    rw [h3] at this
    obtain ⟨p, g1, g2, g3⟩ := this
    exact ⟨p, g1, g2, fun x' hx' => by rw [h4] at hx'; injection hx' with hx'; subst hx'; exact g3⟩
   have hch : ∃ f : Nat × Nat × Oj → Pl, ∀ y ∈ acc, objR ρ w (f y) y.2.2 ∧ (∀ g, objAt (f y) y.2.2 g → wB.heap.size ≤ g ∨ y.2.2.kd = .ro false) ∧ ∀ x, st.fr.lookup y.1 = some x → avR (upd ρ y.2.1 (f y)) x.av (a.tmps.getD y.1 undef) :=
    by classical exact ⟨fun y => if hy' : y ∈ acc then (hy y hy').choose else (pl4 none 0 0 0), fun y hy' => by simp only [dif_pos hy']; exact (hy y hy').choose_spec⟩
   obtain ⟨f, hf⟩ := hch
   let ρ1 : Pls := fun j => if j < s0.H.length then ρ j else match acc.find? (fun z => Nat.beq z.2.1 j) with | some y => f y | none => ρ j
   have h1 : ∀ j, j < s0.H.length → ρ1 j = ρ j := fun j hj => if_pos hj
   have hge : ∀ y ∈ acc, s0.H.length ≤ y.2.1 ∧ y.2.1 < st.cnt ∧ okOb s0.H.length y.2.2 = true := by
    intro y hy'
    rw [← hacc] at hy'
    obtain ⟨x, _, h2, h3⟩ := nws_mem hy'
    obtain ⟨h4, _⟩ := opF_lk h2
    have := hok.2 y.1 x h4
    rw [h3] at this
    exact ⟨this.1, this.2.1, this.2.2.1⟩
   have h2 : ∀ y ∈ acc, ρ1 y.2.1 = f y := fun y hy' => by
    show (if y.2.1 < s0.H.length then _ else _) = _
    rw [if_neg (by have := (hge y hy').1; omega), find_ids hnd hy']
   refine ⟨ρ1, h1, fun j ob hj => ?_, fun x av hx => ?_, fun y hy' => by rw [h2 y hy']; exact ⟨(hf y hy').1, (hf y hy').2.1⟩⟩
   ·by_cases hlt : j < s0.H.length
    ·rw [List.getElem?_append_left hlt] at hj
     rw [h1 j hlt]
     exact objR_lt h1 (fun hk => ltH_ok (okS_ok hs).2.2 j ob hj hk) (objR_ext (hhp j ob hj) hX)
    ·rw [List.getElem?_append_right (by omega)] at hj
     have := padN_at acc s0.H.length hj
     rw [show s0.H.length + (j - s0.H.length) = j by omega] at this
     unfold atN at this
     split at this
     ·rename_i y hfy
      have hmem := List.mem_of_find?_eq_some hfy
      have hb := List.find?_some hfy
      have e := Nat.eq_of_beq_eq_true hb
      subst this
      rw [← e, h2 y hmem]
      have hob := (hge y hmem).2.2
      unfold okOb at hob
      simp only [Bool.and_eq_true] at hob
      exact objR_p (q := ltq s0.H.length) (fun i hi => h1 i (by unfold ltq at hi; simpa using hi)) hob.1 (hf y hmem).1
     ·subst this; exact True.intro
   ·cases x with
    | const c => exact cv_ok hx _
    | func f => injection hx with hx; subst hx; rfl
    | global gg => exact ltA_ok (m := s0.H.length) h1 (ltF_ok (okS_ok hs).2.1 gg av (glk_ok hx hgl).1) (glk_ok hx hgl).2
    | tmp t =>
     simp only [aeN] at hx
     split at hx
     ·rename_i y hy'
      injection hx with hx; subst hx
      obtain ⟨h4, h5⟩ := opF_lk hy'
      have he := hE t y h5 h4
      have hk := hok.2 t y h4
      show avR ρ1 y.av (a.tmps.getD t undef)
      unfold feR at he
      cases hn : y.nw with
      | none =>
       rw [hn] at he hk
       exact pA_ok (q := ltq s0.H.length) (fun i hi => h1 i (by unfold ltq at hi; simpa using hi)) hk he
      | some io =>
       obtain ⟨i, ob⟩ := io
       rw [hn] at hk
       have hm : (t, i, ob) ∈ acc := by rw [← hacc]; exact nws_has hy' hn _ h5
       have h6 := (hf _ hm).2.2 y h4
       refine pA_ok (q := ltq1 s0.H.length i) (fun j hj => ?_) hk.2.2.2.1 h6
       unfold ltq1 at hj
       simp only [Bool.or_eq_true, decide_eq_true_eq] at hj
       rcases hj with hj | hj
       ·rw [h1 j hj]; exact (upd_lt (ρ := ρ) (m := i) j (by have := hk.1; omega)).symm
       ·have e := Nat.eq_of_beq_eq_true hj
        subst e
        rw [h2 _ hm]; exact upd_at.symm
     ·cases hx
  have hlow : ∀ {ρ1 : Pls}, (∀ j, j < s0.H.length → ρ1 j = ρ j) → ∀ j, ltq s0.H.length j = true → ρ j = ρ1 j := fun h1 j hj => (h1 j (by unfold ltq at hj; simpa using hj)).symm
  have h1q : ∀ {i : Nat} {ρ1 : Pls} {p : Pl}, s0.H.length ≤ i → (∀ j, j < s0.H.length → ρ1 j = ρ j) → ρ1 i = p → ∀ j, ltq1 s0.H.length i j = true → upd ρ i p j = ρ1 j := fun hi h1 hp j hj => by
   unfold ltq1 at hj
   simp only [Bool.or_eq_true, decide_eq_true_eq] at hj
   rcases hj with hj | hj
   ·rw [h1 j hj, upd_lt j (by omega)]
   ·have e := Nat.eq_of_beq_eq_true hj
    subst e; rw [upd_at, hp]
  have accOk : ∀ y ∈ acc, s0.H.length ≤ y.2.1 ∧ y.2.1 < st.cnt ∧ okOb s0.H.length y.2.2 = true ∧ (y.2.2.kd = .ro false → st.dm = true) := by
   intro y hy'
   rw [← hacc] at hy'
   obtain ⟨x, _, h2, h3⟩ := nws_mem hy'
   obtain ⟨h4, _⟩ := opF_lk h2
   have := hok.2 y.1 x h4
   rw [h3] at this
   exact ⟨this.1, this.2.1, this.2.2.1, this.2.2.2.2⟩
  have newOk : ∀ (z : AV) (l : List (Nat × Nat × Oj)) (nw : Option (Nat × Oj)), newOf s0.H.length z l = some nw → match nw with | none => pA (ltq s0.H.length) z = true | some (i, ob) => pA (ltq1 s0.H.length i) z = true ∧ ∃ t, (t, i, ob) ∈ l := by
   intro z l
   induction l with
   | nil =>
    intro nw hn
    simp only [newOf] at hn
    split at hn
    ·injection hn with hn; subst hn; assumption
    ·cases hn
   | cons y l ih =>
    intro nw hn
    simp only [newOf] at hn
    split at hn
    ·injection hn with hn; subst hn; assumption
    ·split at hn
     ·rename_i hp
      injection hn with hn; subst hn
      exact ⟨hp, y.1, List.mem_cons_self⟩
     ·have := ih nw hn
      cases nw with
      | none => exact this
      | some io => obtain ⟨i, ob⟩ := io; exact ⟨this.1, this.2.imp fun t ht => List.mem_cons_of_mem _ ht⟩
  split at h
  ·rename_i g' z hv
   split at h
   ·rename_i nw hnw
    injection h with h; simp only [Prod.mk.injEq] at h; obtain ⟨rfl, rfl, rfl, rfl⟩ := h
    have hno := newOk z acc nw hnw
    refine ⟨⟨Nat.le_refl _, fun h => h, ?_⟩, fun a w hX hE => ?_⟩
    ·cases nw with
     | none => exact hno
     | some io =>
      obtain ⟨i, ob⟩ := io
      obtain ⟨h1, t, ht⟩ := hno
      obtain ⟨k1, k2, k3, k4⟩ := accOk _ ht
      exact ⟨k1, k2, k3, h1, k4⟩
    ·obtain ⟨ρ1, h1, hH, hae, hal⟩ := place a w hX hE
     obtain ⟨u, hr, hu⟩ := vop_ok hT hH hae hv hg dst ty pos aft gd
     unfold Oper.wp
     rw [hr]
     refine ⟨u, rfl, Below.refl _ _, ?_⟩
     unfold feR
     cases nw with
     | none => exact pA_ok (hlow h1) hno hu
     | some io =>
      obtain ⟨i, ob⟩ := io
      obtain ⟨h3, t, ht⟩ := hno
      obtain ⟨k1, k2, k3, k4⟩ := accOk _ ht
      exact ⟨ρ1 i, (hal _ ht).1, (hal _ ht).2, pA_ok (h1q k1 h1 rfl) h3 hu⟩
   ·cases h
  ·split at h
   ·rename_i g' b ob ha
    split at h
    ·rename_i hob
     injection h with h; simp only [Prod.mk.injEq] at h; obtain ⟨rfl, rfl, rfl, rfl⟩ := h
     have hob' := hob
     unfold okOb at hob'
     simp only [Bool.and_eq_true] at hob'
     have hkr : ob.kd ≠ .ro false := aop_kd ha
     refine ⟨⟨Nat.le_succ _, fun h => h, hmc, Nat.lt_succ_self _, hob, ?_, fun e => absurd e hkr⟩, fun a w hX hE => ?_⟩
     ·cases b <;> simp [pA, pC, ltq1]
     ·obtain ⟨ρ1, h1, hH, hae, hal⟩ := place a w hX hE
      obtain ⟨u, w', p, hr, hgr, hn1, hn2, hn3, hn4⟩ := aop_ok (w := w) hT hae ha hg dst pos aft gd
      unfold Oper.wp
      rw [hr]
      refine ⟨u, rfl, grown_ext hgr, p, objR_p (hlow h1) hob'.1 hn1, fun g hat => .inl (Nat.le_trans hX.size (hn2 g hat)), ?_⟩
      cases b with
      | true =>
       obtain ⟨k1, ad, k2, rfl⟩ := hn3 rfl
       show clR _ (.pt _ 0) _
       exact ⟨by rw [upd_at]; exact k1, ad, by rw [upd_at]; exact k2, by simp [Addr.add]⟩
      | false =>
       show clR _ (.wh _) _
       simp only [clR, upd_at]
       exact hn4 rfl
    ·cases h
   ·rename_i hv1 _ hv2
    clear hv1 hv2
    cases op with
    | call c =>
     obtain ⟨callee, args, argTypes⟩ := c
     cases callee with
     | value fo =>
      cases fo with
      | func f =>
       simp only at h
       split at h
       ·rename_i F vs hf hvs
        obtain ⟨hct, fn, hfn, hname, hbody⟩ := hF.p hf
        split at h
        ·rename_i g' av objs hFr
         have hrun : ∀ (a : Act) (w : World), (execOp a.eval ⟨dst, .call { callee := .value (.func f), args := args, argTypes := argTypes }, ty, pos, aft, gd⟩).run P w = .ok (.enter f (args.toList.map a.eval).toArray) w := by
          intro a w
          have hname' : ¬ fn.name = "runtime.NumGoroutine" := by simpa using hname
          have hb' : ¬ fn.body = none := fun h0 => by rw [h0] at hbody; cases hbody
          have e : (args.toList.map a.eval).toArray = args.map a.eval := by apply Array.ext'; simp
          rw [e]
          simp [execOp, resolve, invoke, callFunc, Deferred.ofValue, Act.eval, hfn, hname', hb']
         split at h
         ·split at h
          ·rename_i hp
           injection h with h; simp only [Prod.mk.injEq] at h; obtain ⟨rfl, rfl, rfl, rfl⟩ := h
           refine ⟨⟨Nat.le_refl _, fun h => h, hp⟩, fun a w hX hE => ?_⟩
           obtain ⟨ρ1, h1, hH, hae, hal⟩ := place a w hX hE
           have hc := hct vs _ _ av [] hFr hg ρ1 w (args.toList.map a.eval) hX hH (evs_ok hae hvs)
           unfold Oper.wp
           rw [hrun]
           refine hc.mono fun e w' ⟨v, he, hx, ps, hL⟩ => ?_
           subst he
           refine ⟨v, rfl, hx, ?_⟩
           show avR ρ av v
           refine pA_ok (q := ltq s0.H.length) (fun j hj => ?_) hp hL.val
           unfold ltq at hj
           simp only [decide_eq_true_eq] at hj
           rw [updL_lt j (by rw [hHl]; omega), h1 j hj]
          ·cases h
         ·rename_i ob
          split at h
          ·rename_i hp
           simp only [Bool.and_eq_true] at hp
           have hob := hp.1
           unfold okOb at hob
           simp only [Bool.and_eq_true] at hob
           injection h with h; simp only [Prod.mk.injEq] at h; obtain ⟨rfl, rfl, rfl, rfl⟩ := h
           refine ⟨⟨Nat.le_succ _, fun h => by rw [h]; rfl, hmc, Nat.lt_succ_self _, hp.1, hp.2, fun e => by simp [hasRo, e]⟩, fun a w hX hE => ?_⟩
           obtain ⟨ρ1, h1, hH, hae, hal⟩ := place a w hX hE
           have hc := hct vs _ _ av [ob] hFr hg ρ1 w (args.toList.map a.eval) hX hH (evs_ok hae hvs)
           unfold Oper.wp
           rw [hrun]
           refine hc.mono fun e w' ⟨v, he, hx, ps, hL⟩ => ?_
           subst he
           obtain ⟨p, rfl⟩ : ∃ p, ps = [p] := by
            have := hL.len
            cases ps with
            | nil => simp at this
            | cons p l => cases l with
             | nil => exact ⟨p, rfl⟩
             | cons _ _ => simp at this
           have hU : ∀ j, j < s0.H.length → updL ρ1 (s0.H ++ padN acc s0.H.length (st.cnt - s0.H.length)).length [p] j = ρ j := fun j hj => by
            rw [updL_lt j (by rw [hHl]; omega), h1 j hj]
           refine ⟨v, rfl, hx, p, objR_p (hlow hU) hob.1 (hL.obj 0 ob p rfl rfl), fun g hat => ?_, ?_⟩
           ·rcases hL.place 0 ob p g rfl rfl hat with h5 | h5
            ·exact .inl (Nat.le_trans hX.size h5)
            ·exact .inr h5
           ·refine pA_ok (h1q hmc hU ?_) hp.2 hL.val
            have := updL_at (ρ := ρ1) (m := (s0.H ++ padN acc s0.H.length (st.cnt - s0.H.length)).length) (ps := [p]) (k := 0) (p := p) rfl
            rw [Nat.add_zero, hHl] at this
            rw [hHl]; exact this
          ·cases h
         ·cases h
        ·cases h
       ·cases h
      | _ => simp at h
     | _ => simp at h
    | _ => simp at h
end
end Go.Sx
end
section
namespace Go.Sx
open Go.RowKit Go.Ch
section
variable {P : Program} {T : Tab} {ft : Nat → FT} {ρ ρ' : Pls} {w w' : World} {bs : Bs} {w0 wB : World} {s s' : S} {a : Act} {N m : Nat}
def stA2 (T : Tab) (ft : Nat → FT) (N : Nat) (asm : List (Nat × Bool)) (s0 : S) (i : Nat) (o : Oper) (st : Ns) : Option (List Prop × Fe × Nat × Bool) := match dOk N o.dst, stN T (ft i) s0 st o with
 | true, some (g, x, c, d) => (match asm.lookup i with
  | none => some (g, x, c, d)
  | some bv => match x with
   | ⟨.c (.s (.b e)), none⟩ => some (g ++ [e = bv], ⟨.c (.s (.b bv)), none⟩, c, d)
   | _ => none)
 | _, _ => none
def bOf : AV → Option (Option Bool)
 | .c c => (match c with | .s x => (match x with | .b b => some (some b) | _ => none) | _ => none)
 | .t xs => (match xs with | [] => some none | _ => none)
 | .g _ _ => none
def feB (x : Fe) : Option (Option Bool) := match x.nw with | some _ => none | none => bOf x.av
theorem feB_b {x : Fe} {b : Bool} (h : feB x = some (some b)) : x = ⟨.c (.s (.b b)), none⟩ := by
 obtain ⟨av, nw⟩ := x
 cases nw with
 | some _ => cases h
 | none =>
  have h' : bOf av = some (some b) := h
  cases av with
  | c c => cases c with
   | s x => cases x with
    | b b' => injection h' with h'; injection h' with h'; subst h'; rfl
    | _ => cases h'
   | _ => cases h'
  | g n cs => cases h'
  | t xs => cases xs with
   | nil => injection h' with h'; cases h'
   | cons y ys => cases h'
theorem feB_u {x : Fe} (h : feB x = some none) : x = ⟨.t [], none⟩ := by
 obtain ⟨av, nw⟩ := x
 cases nw with
 | some _ => cases h
 | none =>
  have h' : bOf av = some none := h
  cases av with
  | c c => cases c with
   | s x => cases x with
    | b b' => injection h' with h'; cases h'
    | _ => cases h'
   | _ => cases h'
  | g n cs => cases h'
  | t xs => cases xs with
   | nil => rfl
   | cons y ys => cases h'
def stG2 (T : Tab) (ft : Nat → FT) (N : Nat) (ops : Array Oper) (asm : List (Nat × Bool)) (s0 : S) (i : Nat) (o : Oper) (st : Ns) : Option (Option (List Prop × Fe × Nat × Bool)) := match o.guard with
 | none => (match stA2 T ft N asm s0 i o st with | some r => some (some r) | none => none)
 | some (j, want) => match (ops[j]?).bind (·.dst) with
  | none => none
  | some dj => match st.fr.lookup dj with
   | some x => (match feB x with
    | some (some b) => (match b == want with
     | true => (match stA2 T ft N asm s0 i o st with | some r => some (some r) | none => none)
     | false => some none)
    | some none => some none
    | none => none)
   | none => none
def frN (T : Tab) (ft : Nat → FT) (N : Nat) (ops : Array Oper) (asm : List (Nat × Bool)) (s0 : S) : Nat → List Oper → Ns → Option (List Prop × Ns)
 | _, [], st => some ([], st)
 | i, o :: rest, st => match stG2 T ft N ops asm s0 i o st with
  | none => none
  | some none => (match dOk N o.dst with | true => frN T ft N ops asm s0 (i + 1) rest ⟨putN st.fr o.dst ⟨.t [], none⟩, st.cnt, st.dm⟩ | false => none)
  | some (some (g, x, c, d)) => match frN T ft N ops asm s0 (i + 1) rest ⟨putN st.fr o.dst x, c, d⟩ with
   | none => none
   | some (g2, st2) => some (g ++ g2, st2)
def FrE (ρ : Pls) (wB : World) (st : Ns) (a : Act) (w : World) : Prop := ∀ t x, st.fr.lookup t = some x → feR ρ wB x (a.tmps.getD t undef) w
theorem lkF {fr : FrN} {d t : Nat} {x : Fe} (h : (fr.filter (fun p => !(p.1 == d))).lookup t = some x) : fr.lookup t = some x ∧ t ≠ d := by
 induction fr with
 | nil => simp at h
 | cons q fr ih =>
  obtain ⟨k, z⟩ := q
  rw [List.filter_cons] at h
  split at h
  ·rename_i hk
   have hkd : k ≠ d := by simpa using hk
   rw [List.lookup_cons] at h ⊢
   split at h
   ·rename_i e
    have : t = k := by simpa using e
    subst this
    exact ⟨h, hkd⟩
   ·exact ih h
  ·rename_i hk
   have hkd : k = d := by simpa using hk
   obtain ⟨h1, h2⟩ := ih h
   refine ⟨?_, h2⟩
   rw [List.lookup_cons]
   split
   ·rename_i e
    have : t = k := by simpa using e
    subst this; exact absurd hkd h2
   ·exact h1
theorem lkPut {fr : FrN} {d : Option Nat} {t : Nat} {x y : Fe} (h : (putN fr d x).lookup t = some y) : (d = some t ∧ y = x) ∨ (d ≠ some t ∧ fr.lookup t = some y) := by
 cases d with
 | none => exact .inr ⟨by simp, h⟩
 | some d =>
  simp only [putN, List.lookup_cons] at h
  split at h
  ·rename_i e
   have : t = d := by simpa using e
   subst this
   injection h with h; exact .inl ⟨rfl, h.symm⟩
  ·obtain ⟨h1, h2⟩ := lkF h
   exact .inr ⟨by simpa using fun e => h2 e.symm, h1⟩
theorem stA2_ok (hT : TabOk P T) (hF : ∀ i, FtOk P (Ext wB) (ft i)) {asm : List (Nat × Bool)} {s0 : S} (hs : okS s0 = true) (hgl : GlR bs ρ s0.gl) (hhp : HpR ρ wB s0.H) {st : Ns} (hok : OkN s0.H.length st) {i : Nat} {o : Oper} {g : List Prop} {x : Fe} {c : Nat} {d : Bool} (h : stA2 T ft N asm s0 i o st = some (g, x, c, d)) (hg : allP g) :
  dOk N o.dst = true ∧ (st.cnt ≤ c ∧ (st.dm = true → d = true) ∧ (match x.nw with | none => pA (ltq s0.H.length) x.av = true | some (i, ob) => s0.H.length ≤ i ∧ i < c ∧ okOb s0.H.length ob = true ∧ pA (ltq1 s0.H.length i) x.av = true ∧ (ob.kd = .ro false → d = true))) ∧
  ∀ (a : Act) (w : World), Ext wB w → (∀ t y, Operand.tmp t ∈ o.op.operands.toList → st.fr.lookup t = some y → feR ρ wB y (a.tmps.getD t undef) w) →
   o.wp P a w (fun a' w' => ∃ v, a' = a.put o.dst v ∧ Ext w w' ∧ feR ρ wB x v w') (fun _ _ _ => False) := by
 unfold stA2 at h
 split at h
 ·rename_i g1 x1 c1 d1 hd h1
  refine ⟨hd, ?_⟩
  split at h
  ·injection h with h; simp only [Prod.mk.injEq] at h; obtain ⟨rfl, rfl, rfl, rfl⟩ := h
   exact stN_ok hT (hF i) hs hgl hhp hok h1 hg
  ·split at h
   ·rename_i bv _ e
    injection h with h; simp only [Prod.mk.injEq] at h; obtain ⟨rfl, rfl, rfl, rfl⟩ := h
    obtain ⟨ga, gb⟩ := allP_append.1 hg
    simp only [allP] at gb
    have := stN_ok hT (hF i) hs hgl hhp hok h1 ga
    rw [gb] at this
    exact this
   ·cases h
 ·cases h
def frI (fr : Fr) : FrN := fr.map fun p => (p.1, ⟨p.2, none⟩)
theorem frI_lk {fr : Fr} {t : Nat} {x : Fe} (h : (frI fr).lookup t = some x) : x.nw = none ∧ fr.lookup t = some x.av := by
 induction fr with
 | nil => simp [frI] at h
 | cons q fr ih =>
  obtain ⟨k, z⟩ := q
  simp only [frI, List.map_cons, List.lookup_cons] at h ⊢
  split at h
  ·injection h with h; subst h; exact ⟨rfl, rfl⟩
  ·exact ih h
theorem RW_fr (hT : TabOk P T) (hF : ∀ i, FtOk P (Ext wB) (ft i)) {asm : List (Nat × Bool)} {s0 : S} (hs : okS s0 = true) (hgl : GlR bs ρ s0.gl) (hhp : HpR ρ wB s0.H) {ops : Array Oper} {Q' : Act → World → Prop} {st' : Ns} (l : List Oper) :
  ∀ (i : Nat) (st : Ns) (E : Nat → Pred) (K : List (Option Tmp × Pred) → Prop) (g : List Prop), frN T ft N ops asm s0 i l st = some (g, st') → allP g → OkN s0.H.length st →
   (∀ t x, st.fr.lookup t = some x → ∀ v w, Ext wB w → E t v w → feR ρ wB x v w) →
   (∀ a w, Ext wB w → a.tmps.size = N → a.defers = [] → OkN s0.H.length st' → FrE ρ wB st' a w → Q' a w) →
   (∀ L, (∀ a w, Ext wB w → a.tmps.size = N → a.defers = [] → FrE ρ wB st a w → Fin Q' L a w) → K L) → RW P ops Ext wB l E K := by
 induction l with
 | nil =>
  intro i st E K g h hg hok _ hQ hK
  injection h with h; simp only [Prod.mk.injEq] at h; obtain ⟨rfl, rfl⟩ := h
  exact hK [] fun a w h1 h2 h3 h4 => hQ a w h1 h2 h3 hok h4
 | cons o rest ih =>
  intro i st E K g h hg hok hE hQ hK
  simp only [frN] at h
  have look : ∀ {t : Nat} {x : Fe}, st.fr.lookup t = some x → ∀ {a : Act} {w : World}, Ext wB w → t ∈ o.looksAt ops → (∀ t ∈ o.looksAt ops, E t (a.tmps.getD t undef) w) → feR ρ wB x (a.tmps.getD t undef) w :=
   fun hx _ _ hX ht hEa => hE _ _ hx _ _ hX (hEa _ ht)
  have opLook : ∀ {t : Nat}, Operand.tmp t ∈ o.op.operands.toList → t ∈ o.looksAt ops := fun hx => List.mem_append_left _ (List.mem_filterMap.2 ⟨.tmp _, by simpa using hx, rfl⟩)
  have gLook : ∀ {j : Nat} {want : Bool} {dj : Nat}, o.guard = some (j, want) → (ops[j]?).bind (·.dst) = some dj → dj ∈ o.looksAt ops := fun hgd hd => by
   unfold Oper.looksAt; rw [hgd]; simp [hd]
  have wnt : ∀ {j : Nat} {want b : Bool} {dj : Nat}, o.guard = some (j, want) → (ops[j]?).bind (·.dst) = some dj → st.fr.lookup dj = some ⟨.c (.s (.b b)), none⟩ → ∀ {a : Act} {w : World}, Ext wB w → (∀ t ∈ o.looksAt ops, E t (a.tmps.getD t undef) w) → Region.wanted o (yielded ops a.tmps) = (b == want) := fun hgd hd hb _ _ hX hEa =>
   wanted_b hgd hd (look hb hX (gLook hgd hd) hEa)
  have skipC : dOk N o.dst = true → (∀ (a : Act) (w : World), Ext wB w → (∀ t ∈ o.looksAt ops, E t (a.tmps.getD t undef) w) → Region.wanted o (yielded ops a.tmps) = false) →
    frN T ft N ops asm s0 (i + 1) rest ⟨putN st.fr o.dst ⟨.t [], none⟩, st.cnt, st.dm⟩ = some (g, st') → RW P ops Ext wB (o :: rest) E K := fun hdk hw h1 => by
   refine ⟨fun v _ => v = undef, fun _ _ _ _ h => h, fun a w hX _ hEa => ?_, ih (i + 1) _ _ _ _ h1 hg ⟨hok.1, fun t x hx => ?_⟩ (fun t x hx v w hX hv => ?_) hQ (fun L hL => hK _ fun a w hX hn hd hFr => fun v hv => hL _ w hX (by rw [put_size]; exact hn) (by rw [put_defers]; exact hd) fun t x hx => ?_)⟩
   ·rw [hw a w hX hEa]
    have e : ¬ (false = true) := fun h => Bool.noConfusion h
    rw [if_neg e]
   ·rcases lkPut hx with ⟨_, rfl⟩ | ⟨_, h2⟩
    ·rfl
    ·exact hok.2 t x h2
   ·unfold Go.Ch.upd at hv
    rcases lkPut hx with ⟨hd, rfl⟩ | ⟨h2, h3⟩
    ·rw [hd] at hv
     have e : (if t = t then (fun v _ => v = undef) else E t) v w := hv
     rw [if_pos rfl] at e
     exact ⟨[], F2.nil, e⟩
    ·refine hE t x h3 v w hX ?_
     cases hd : o.dst with
     | none => rw [hd] at hv; exact hv
     | some d => rw [hd] at hv h2; have e : (if t = d then (fun v _ => v = undef) else E t) v w := hv; rw [if_neg (fun e => h2 (by rw [e]))] at e; exact e
   ·rcases lkPut hx with ⟨hd2, rfl⟩ | ⟨h2, h3⟩
    ·rw [hd2] at hdk ⊢
     rw [getD_put_same a v t (by have := dOk_ok hdk hn t rfl; exact this)]
     exact ⟨[], F2.nil, hv⟩
    ·rw [getD_put_other a o.dst v t h2]
     exact hFr t x h3
  have doC : ∀ {g1 g2 : List Prop} {x1 : Fe} {c1 : Nat} {d1 : Bool}, stA2 T ft N asm s0 i o st = some (g1, x1, c1, d1) → g = g1 ++ g2 → (∀ (a : Act) (w : World), Ext wB w → (∀ t ∈ o.looksAt ops, E t (a.tmps.getD t undef) w) → Region.wanted o (yielded ops a.tmps) = true) →
    frN T ft N ops asm s0 (i + 1) rest ⟨putN st.fr o.dst x1, c1, d1⟩ = some (g2, st') → RW P ops Ext wB (o :: rest) E K := fun {g1 g2 x1 c1 d1} hA hge hw h1 => by
   subst hge
   obtain ⟨ga, gb⟩ := allP_append.1 hg
   obtain ⟨hdk, ⟨k1, k2, k3⟩, hwp⟩ := stA2_ok hT hF hs hgl hhp hok hA ga
   refine ⟨fun v w => feR ρ wB x1 v w, fun _ _ _ hX h => feR_ext hX h, fun a w hX _ hEa => ?_, ih (i + 1) _ _ _ _ h1 gb ⟨Nat.le_trans hok.1 k1, fun t x hx => ?_⟩ (fun t x hx v w hX hv => ?_) hQ (fun L hL => hK _ fun a w hX hn hd hFr => fun v hv => hL _ w hX (by rw [put_size]; exact hn) (by rw [put_defers]; exact hd) fun t x hx => ?_)⟩
   ·rw [hw a w hX hEa]
    rw [if_pos rfl]; exact hwp a w hX (fun t y hop hy => look hy hX (opLook hop) hEa)
   ·rcases lkPut hx with ⟨_, rfl⟩ | ⟨_, h2⟩
    ·exact k3
    ·have := hok.2 t x h2
     cases hn : x.nw with
     | none => rw [hn] at this; exact this
     | some io => obtain ⟨i', ob⟩ := io; rw [hn] at this; exact ⟨this.1, Nat.lt_of_lt_of_le this.2.1 k1, this.2.2.1, this.2.2.2.1, fun e => k2 (this.2.2.2.2 e)⟩
   ·unfold Go.Ch.upd at hv
    rcases lkPut hx with ⟨hd, rfl⟩ | ⟨hd, h2⟩
    ·rw [hd] at hv
     have e : (if t = t then (fun v w => feR ρ wB x v w) else E t) v w := hv
     rw [if_pos rfl] at e
     exact e
    ·refine hE t x h2 v w hX ?_
     cases hd2 : o.dst with
     | none => rw [hd2] at hv; exact hv
     | some d => rw [hd2] at hv hd; have e : (if t = d then (fun v w => feR ρ wB x1 v w) else E t) v w := hv; rw [if_neg (fun e => hd (by rw [e]))] at e; exact e
   ·rcases lkPut hx with ⟨hd2, rfl⟩ | ⟨hd2, h2⟩
    ·rw [hd2] at hdk ⊢
     rw [getD_put_same a v t (by have := dOk_ok hdk hn t rfl; exact this)]
     exact hv
    ·rw [getD_put_other a o.dst v t hd2]
     exact hFr t x h2
  split at h
  ·cases h
  ·rename_i hG
   split at h
   ·rename_i hdk
    unfold stG2 at hG
    split at hG
    ·split at hG <;> cases hG
    ·rename_i j want hgd
     split at hG
     ·cases hG
     ·rename_i dj hdj
      split at hG
      ·rename_i xq hxq
       split at hG
       ·rename_i b hb0
        have hb := hxq
        rw [feB_b hb0] at hb
        split at hG
        ·split at hG <;> cases hG
        ·rename_i hbw
         exact skipC hdk (fun a w hX hEa => by rw [wnt hgd hdj hb hX hEa]; exact hbw) h
       ·rename_i hb0
        have hb := hxq
        rw [feB_u hb0] at hb
        exact skipC hdk (fun a w hX hEa => wanted_u hgd hdj (undef_of (look hb hX (gLook hgd hdj) hEa))) h
       ·cases hG
      ·cases hG
   ·cases h
  ·rename_i g1 x1 c1 d1 hG
   split at h
   ·cases h
   ·rename_i g2 st2 h2
    injection h with h; simp only [Prod.mk.injEq] at h; obtain ⟨rfl, rfl⟩ := h
    unfold stG2 at hG
    split at hG
    ·rename_i hgd
     split at hG
     ·rename_i r hr
      injection hG with hG; injection hG with hG; subst hG
      exact doC hr rfl (fun a w _ _ => by unfold Region.wanted; rw [hgd]) h2
     ·cases hG
    ·rename_i j want hgd
     split at hG
     ·cases hG
     ·rename_i dj hdj
      split at hG
      ·rename_i xq hxq
       split at hG
       ·rename_i b hb0
        have hb := hxq
        rw [feB_b hb0] at hb
        split at hG
        ·rename_i hbw
         split at hG
         ·rename_i r hr
          injection hG with hG; injection hG with hG; subst hG
          exact doC hr rfl (fun a w hX hEa => by rw [wnt hgd hdj hb hX hEa]; exact hbw) h2
         ·cases hG
        ·cases hG
       ·cases hG
       ·cases hG
      ·cases hG
def ap2 (o o' : Oj) : Bool := (!o.own && !o'.own) || (o.own && o'.own && !(Nat.beq o.e o'.e))
def ap1 (o : Oj) : List Oj → Bool
 | [] => true
 | x :: l => ap2 o x && ap1 o l
def apL : List Oj → Bool
 | [] => true
 | o :: l => ap1 o l && apL l
theorem ap1_ok {o : Oj} : ∀ {l : List Oj}, ap1 o l = true → ∀ (k : Nat) (x : Oj), l[k]? = some x → ap2 o x = true
 | [], _, k, x, h => by simp at h
 | y :: l, h, k, x, hx => by
  simp only [ap1, Bool.and_eq_true] at h
  cases k with
  | zero => simp at hx; subst hx; exact h.1
  | succ k => exact ap1_ok h.2 k x (by simpa using hx)
theorem apL_ok : ∀ {l : List Oj}, apL l = true → ∀ (i j : Nat) (x y : Oj), i < j → l[i]? = some x → l[j]? = some y → ap2 x y = true
 | [], _, i, j, x, y, _, h, _ => by simp at h
 | z :: l, h, i, j, x, y, hij, hx, hy => by
  simp only [apL, Bool.and_eq_true] at h
  cases j with
  | zero => omega
  | succ j =>
   cases i with
   | zero => simp at hx; subst hx; exact ap1_ok h.1 j y (by simpa using hy)
   | succ i => exact apL_ok h.2 i j x y (by omega) (by simpa using hx) (by simpa using hy)
theorem ap_sep {p p' : Pl} {o o' : Oj} {g : Nat} (h : ap2 o o' = true) (h1 : objR ρ w p o) (h2 : objR ρ' w p' o') (ho : o.own = true ∨ o'.own = true) (hat : objAt p o g) (hat' : objAt p' o' g) : False := by
 unfold ap2 at h
 simp only [Bool.or_eq_true, Bool.and_eq_true, Bool.not_eq_true'] at h
 rcases h with ⟨ha, hb⟩ | ⟨⟨ha, hb⟩, hc⟩
 ·rcases ho with e | e
  ·rw [e] at ha; cases ha
  ·rw [e] at hb; cases hb
 ·have blk : ∀ {ρ : Pls} {p : Pl} {o : Oj}, objR ρ w p o → o.own = true → objAt p o g → ∃ cur, w.heap[g]? = some (.cells cur o.e (0, 0)) := by
   intro ρ p o hr hown hat
   obtain ⟨ad, hA, hg⟩ : ∃ ad, p.A = some ad ∧ ad.block = g := by
    unfold objAt at hat
    unfold Oj.own at hown
    cases hk : o.kd with
    | dead => rw [hk] at hown; cases hown
    | ro _ => rw [hk] at hown; cases hown
    | row => simpa [hk] using hat
    | blk => simpa [hk] using hat
    | dp => rw [hk] at hown; cases hown
   obtain ⟨vs, g', cur, _, rfl, hh, _⟩ := own_block hr hown hA
   simp only at hg
   subst hg
   exact ⟨cur, hh⟩
  obtain ⟨c1, e1⟩ := blk h1 ha hat
  obtain ⟨c2, e2⟩ := blk h2 hb hat'
  rw [e1] at e2
  injection e2 with e2
  injection e2 with _ e3
  rw [e3, Nat.beq_refl] at hc
  cases hc
def demK (b : Bool) (o : Oj) : Oj := match b, o.kd with
 | true, .row => ⟨.ro true, o.e, o.sz, o.n, o.cs⟩
 | true, .blk => ⟨.dead, o.e, o.sz, o.n, o.cs⟩
 | _, _ => o
theorem demK_cs (b : Bool) (o : Oj) : (demK b o).cs = o.cs := by unfold demK; split <;> rfl
theorem demK_ok {b : Bool} {o : Oj} {p : Pl} (h : objR ρ w p o) : objR ρ w p (demK b o) := by
 unfold demK
 split
 ·rename_i hk
  have h1 := h.slc (.inr (.inl hk))
  obtain ⟨h2, h3⟩ := h.read (by rw [hk]; simp)
  exact ⟨h2, h1, h3⟩
 ·exact True.intro
 ·exact h
theorem demK_at {b : Bool} {o : Oj} {p : Pl} {g : Nat} (h : objAt p (demK b o) g) : objAt p o g := by
 unfold demK at h
 split at h
 ·rename_i hk
  unfold objAt at h ⊢
  simp only [hk] at h ⊢
  exact h.2
 ·exact absurd h (fun e => e)
 ·exact h
theorem demK_ro {b : Bool} {o : Oj} (h : (demK b o).kd = .ro false) : o.kd = .ro false := by
 unfold demK at h
 split at h
 ·cases h
 ·cases h
 ·exact h
def objsN (m j i : Nat) : List Nat := List.range m ++ List.replicate j (i + 1) ++ [i]
theorem objsN_lt {m j i k : Nat} (h : k < m) : (objsN m j i)[k]? = some k := by
 unfold objsN
 rw [List.getElem?_append_left (by simp; omega), List.getElem?_append_left (by simpa using h)]
 simp [h]
theorem objsN_at {m j i : Nat} : (objsN m j i)[m + j]? = some i := by
 unfold objsN
 rw [List.getElem?_append_right (by simp)]
 simp
def asmN (m : Nat) (fr : FrN) : Nat → List (Nat × Bool) → Option (Fr × List Oj)
 | _, [] => some ([], [])
 | j, (t, dmt) :: ks => match fr.lookup t with
  | some ⟨av, some (i, o)⟩ => (match rnA (objsN m j i) av, asmN m fr (j + 1) ks with
   | some y, some (r, os) => (match pA (ltq1 m (m + j)) y with | true => some ((t, y) :: r, demK dmt o :: os) | false => none)
   | _, _ => none)
  | some ⟨av, none⟩ => (match asmN m fr j ks with | some (r, os) => some ((t, av) :: r, os) | none => none)
  | none => none
theorem asmN_ok {st : Ns} {a : Act} {w : World} (hok : OkN m st) : ∀ (ks : List (Nat × Bool)) (j : Nat) (fr : Fr) (os : List Oj), (∀ t x, t ∈ ks.map Prod.fst → st.fr.lookup t = some x → feR ρ wB x (a.tmps.getD t undef) w) → asmN m st.fr j ks = some (fr, os) →
  ∃ ps : List Pl, ps.length = os.length ∧ (∀ (k : Nat) (o : Oj) (p : Pl), os[k]? = some o → ps[k]? = some p → (∀ ρ' : Pls, (∀ i, i < m → ρ' i = ρ i) → objR ρ' w p o) ∧ (∀ g, objAt p o g → wB.heap.size ≤ g ∨ o.kd = .ro false) ∧ (o.kd = .ro false → st.dm = true)) ∧
   ∀ ρ' : Pls, (∀ i, i < m → ρ' i = ρ i) → (∀ (k : Nat) (p : Pl), ps[k]? = some p → ρ' (m + j + k) = p) → FrR ρ' fr a
 | [], j, fr, os, _, h => by
  injection h with h; simp only [Prod.mk.injEq] at h; obtain ⟨rfl, rfl⟩ := h
  exact ⟨[], rfl, fun k o p ho => by simp at ho, fun _ _ _ t x hx => by simp at hx⟩
 | (t, dmt) :: ks, j, fr, os, hE, h => by
  have hE' : ∀ t x, t ∈ ks.map Prod.fst → st.fr.lookup t = some x → feR ρ wB x (a.tmps.getD t undef) w := fun t x ht => hE t x (List.mem_cons_of_mem _ ht)
  simp only [asmN] at h
  split at h
  ·rename_i av i o ht
   split at h
   ·rename_i y r os' hy hr
    split at h
    ·rename_i hp
     injection h with h; simp only [Prod.mk.injEq] at h; obtain ⟨rfl, rfl⟩ := h
     obtain ⟨ps, h1, h2, h3⟩ := asmN_ok hok ks (j + 1) r os' hE' hr
     have hk := hok.2 t _ ht
     simp only at hk
     obtain ⟨k1, k2, k3, k4, k5⟩ := hk
     have he := hE t _ (by simp) ht
     unfold feR at he
     simp only at he
     obtain ⟨p, e1, e2, e3⟩ := he
     have hob := k3
     unfold okOb at hob
     simp only [Bool.and_eq_true] at hob
     refine ⟨p :: ps, by simp [h1], fun k ob q ho hq => ?_, fun ρ' hρ hat t' x hx => ?_⟩
     ·cases k with
      | zero =>
       simp at ho hq; subst ho; subst hq
       refine ⟨fun ρ' hρ => ?_, fun g hg => ?_, fun e => k5 (demK_ro e)⟩
       ·refine objR_p (q := ltq m) (fun i hi => ?_) (by rw [demK_cs]; exact hob.1) (demK_ok e1)
        unfold ltq at hi; simp only [decide_eq_true_eq] at hi; exact hρ i hi
       ·rcases e2 g (demK_at hg) with h5 | h5
        ·exact .inl h5
        ·refine .inr ?_
         unfold demK
         rw [h5]; simp
         exact h5
      | succ k => exact h2 k ob q (by simpa using ho) (by simpa using hq)
     ·rw [List.lookup_cons] at hx
      split at hx
      ·rename_i et
       have : t' = t := by simpa using et
       subst this
       injection hx with hx; subst hx
       refine pA_ok (q := ltq1 m (m + j)) (fun i' hi => ?_) hp (rnA_ok hy e3)
       unfold ltq1 at hi
       simp only [Bool.or_eq_true, decide_eq_true_eq] at hi
       rcases hi with hi | hi
       ·rw [hρ i' hi, plK_at (objsN_lt hi)]
        exact (upd_lt (ρ := ρ) (m := i) i' (by omega)).symm
       ·have e := Nat.eq_of_beq_eq_true hi
        subst e
        rw [plK_at objsN_at, upd_at]
        have := hat 0 p rfl
        simpa using this
      ·exact h3 ρ' hρ (fun k q hq => by have := hat (k + 1) q (by simpa using hq); rw [← this]; congr 1; omega) t' x hx
    ·cases h
   ·cases h
  ·rename_i av ht
   split at h
   ·rename_i r os' hr
    injection h with h; simp only [Prod.mk.injEq] at h; obtain ⟨rfl, rfl⟩ := h
    obtain ⟨ps, h1, h2, h3⟩ := asmN_ok hok ks j r os' hE' hr
    refine ⟨ps, h1, h2, fun ρ' hρ hat t' x hx => ?_⟩
    rw [List.lookup_cons] at hx
    split at hx
    ·rename_i et
     have : t' = t := by simpa using et
     subst this
     injection hx with hx; subst hx
     have hk := hok.2 t' _ ht
     have he := hE t' _ (by simp) ht
     unfold feR at he
     simp only at hk he
     refine pA_ok (q := ltq m) (fun i hi => ?_) hk he
     unfold ltq at hi; simp only [decide_eq_true_eq] at hi; exact hρ i hi
    ·exact h3 ρ' hρ hat t' x hx
   ·cases h
  ·cases h
def freeS (T : Tab) (ft : Nat → FT) (N k : Nat) (asm : List (Nat × Bool)) (ks : List (Nat × Bool)) (ops : List Oper) (s : S) : Option (List Prop × S) :=
 match okS s, frN T ft N ops.toArray asm s 0 (ops.take k) ⟨frI s.fr, s.H.length, false⟩ with
 | true, some (g, st) => (match asmN s.H.length st.fr 0 ks with
  | some (fr, os) => (match okS ⟨s.fr, s.gl, demI st.dm s.H⟩, apL os with
   | true, true => some (g, ⟨fr, s.gl, demI st.dm s.H ++ os⟩)
   | _, _ => none)
  | none => none)
 | _, _ => none
def regD (T : Tab) (ft : Nat → FT) (N k : Nat) (asm : List (Nat × Bool)) (ks : List (Nat × Bool)) (cs : List Co) (live objs : List Nat) (ops : List Oper) (s : S) : Option (List Prop × S) :=
 match freeS T ft N k asm ks ops s with
 | some (g, s1) => (match exR T ft N ops.toArray asm k (ops.drop k) s1 with
  | some (g2, s2) => (match after cs live objs s2 with | some s3 => some (g ++ g2, s3) | none => none)
  | none => none)
 | none => none
theorem ltC_p {c : Cl} (h : ltC m c = true) : pC (ltq m) c = true := by cases c <;> first | rfl | exact h
theorem ltL_p : ∀ {l : List Cl}, ltL m l = true → pL (ltq m) l = true
 | [], _ => rfl
 | c :: l, h => by
  simp only [ltL, Bool.and_eq_true] at h
  simp only [pL, Bool.and_eq_true]
  exact ⟨ltC_p h.1, ltL_p h.2⟩
theorem ltX_p {cs : Cs} (h : ltX m cs = true) : pX (ltq m) cs = true := by cases cs <;> first | rfl | exact ltL_p h
theorem lt1_p {x : A1} (h : lt1 m x = true) : p1 (ltq m) x = true := by
 cases x with
 | c x => exact ltC_p h
 | g n cs => exact ltX_p h
theorem lt1s_p : ∀ {l : List A1}, lt1s m l = true → p1s (ltq m) l = true
 | [], _ => rfl
 | c :: l, h => by
  simp only [lt1s, Bool.and_eq_true] at h
  simp only [p1s, Bool.and_eq_true]
  exact ⟨lt1_p h.1, lt1s_p h.2⟩
theorem ltA_p {x : AV} (h : ltA m x = true) : pA (ltq m) x = true := by
 cases x with
 | c x => exact ltC_p h
 | g n cs => exact ltX_p h
 | t xs => exact lt1s_p h
theorem W_regD (hT : TabOk P T) (hF : ∀ i, FtOk P (Kp bs w0) (ft i)) (hm : P.follows .mixedOrders = true) {id : Nat} {l : List Oper} (k : Nat) (asm ks : List (Nat × Bool)) (cs : List Co) (live objs : List Nat) {g : List Prop} {s' : S}
  (hr : (okRegion l.toArray k N && decide (k ≤ l.length)) = true) (h : regD T ft N k asm ks cs live objs l s = some (g, s')) (hg : allP g) {Q : Exit → S → Prop} (hQ : Q .normal s') :
  W P N bs w0 (.region id l.toArray true) s Q := by
 intro a w hR
 simp only [Bool.and_eq_true] at hr
 obtain ⟨hreg, hkl⟩ := hr
 unfold regD at h
 split at h
 ·rename_i g1 s1 h1
  split at h
  ·rename_i g2 s2 h2
   split at h
   ·rename_i s3 h3
    injection h with h; simp only [Prod.mk.injEq] at h; obtain ⟨rfl, rfl⟩ := h
    obtain ⟨ga, gb⟩ := allP_append.1 hg
    unfold freeS at h1
    split at h1
    ·rename_i g' st hs hfr
     split at h1
     ·rename_i fr os has
      split at h1
      ·rename_i hsI hap
       injection h1 with h1; simp only [Prod.mk.injEq] at h1; obtain ⟨rfl, rfl⟩ := h1
       obtain ⟨r1, r2, ρ, r3⟩ := hR
       have hxd : ∀ {w' : World}, Ext w.drew w' → Kp bs w0 w' := fun hx => (r3.kp.drew).ext hx
       have hhp : HpR ρ w.drew s.H := fun i o ho => (r3.hp i o ho).keep fun _ _ _ => rfl
       refine wp_region_rel k N Ext hm hreg hkl r2 r1 (fun w => Below.refl _ _) (fun _ _ _ h1 h2 => Ext.tr h1 h2) ?_
       refine RW_fr hT (fun i => FtOk.weak (hF i) fun w' h3 => hxd h3) hs r3.gl hhp (Q' := fun a' w' => wpList P l.toArray (fun ex a' w' => ∃ s', Q ex s' ∧ Rel N bs w0 s' a' w') (l.drop k) a' w') (l.take k) 0 _ _ _ _ hfr ga ?_ ?_ ?_ ?_
       ·exact ⟨Nat.le_refl _, fun t x hx => by
         obtain ⟨e1, e2⟩ := frI_lk hx
         rw [e1]
         exact ltA_p (ltF_ok (okS_ok hs).1 t _ e2)⟩
       ·intro t x hx v w' hX hv
        obtain ⟨e1, e2⟩ := frI_lk hx
        unfold feR
        rw [e1]
        have hv' : v = a.tmps.getD t undef := hv
        subst hv'
        exact r3.fr t _ e2
       ·intro a' w' hX hn hd hok hE
        obtain ⟨ps, hl, hps, hfin⟩ := asmN_ok hok ks 0 fr os (fun t x _ hx => hE t x hx) has
        have hlenI : (demI st.dm s.H).length = s.H.length := by unfold demI; split; exact demO_len _; rfl
        have hRI : RelA ρ bs w0 ⟨s.fr, s.gl, demI st.dm s.H⟩ a w := by
         unfold demI; split
         ·exact r3.dem
         ·exact r3
        refine exR_ok hT hF _ k g2 _ a' w' h2 gb ⟨hd, hn, updL ρ s.H.length ps, ?_⟩ (fun a2 w2 hr => ⟨_, hQ, after_ok h3 hr⟩)
        have hsep := apL_ok hap
        have hU : ∀ i, i < s.H.length → updL ρ s.H.length ps i = ρ i := updL_lt
        have hUat : ∀ (k : Nat) (p : Pl), ps[k]? = some p → updL ρ s.H.length ps (s.H.length + k) = p := fun k p hp => updL_at hp
        have hold : ∀ {j : Nat} {x : Oj} {g : Nat}, (demI st.dm s.H)[j]? = some x → objAt (ρ j) x g → g < w.heap.size := fun hj hat => objAt_lt (hRI.hp _ _ hj) hat
        have e : updL ρ s.H.length ps = updL ρ (demI st.dm s.H).length ps := by rw [hlenI]
        have hobj : ∀ (k : Nat) (o : Oj) (p : Pl), os[k]? = some o → ps[k]? = some p → objR (updL ρ s.H.length ps) w' p o := fun k o p ho hp => (hps k o p ho hp).1 _ hU
        have sep2 : ∀ (k l : Nat) (o o' : Oj) (p p' : Pl) (g : Nat), k ≠ l → os[k]? = some o → os[l]? = some o' → ps[k]? = some p → ps[l]? = some p' → o.own = true → objAt p o g → ¬ objAt p' o' g := by
         intro k l o o' p p' g hkl ho ho' hp hp' hown hat hat'
         rcases Nat.lt_or_gt_of_ne hkl with hlt | hlt
         ·exact ap_sep (hsep k l o o' hlt ho ho') (hobj k o p ho hp) (hobj l o' p' ho' hp') (.inl hown) hat hat'
         ·exact ap_sep (hsep l k o' o hlt ho' ho) (hobj l o' p' ho' hp') (hobj k o p ho hp) (.inr hown) hat' hat
        have place : ∀ (k : Nat) (o : Oj) (p : Pl) (g : Nat), os[k]? = some o → ps[k]? = some p → objAt p o g → w.heap.size ≤ g ∨ o.kd = .ro false := fun k o p g ho hp hat => (hps k o p ho hp).2.1 g hat
        have hfr := hfin _ hU (fun k p hp => by have := hUat k p hp; simpa using this)
        rw [e] at hobj hfr ⊢
        refine RelA.news (w := w) (s := ⟨s.fr, s.gl, demI st.dm s.H⟩) hRI hsI hl rfl (fun j x hj => .inr ⟨hj, (hRI.hp j x hj).keep fun g hlt _ => hX.block g hlt⟩) (hxd hX) hobj (fun k o p j x g ho hp hj hxk hat hor hat2 => ?_) sep2 (fun k o p ho hp hfs g hat => ?_) _ _ hfr
        ·rcases place k o p g ho hp hat with hge | hro
         ·have := hold hj hat2
          omega
         ·have hyes := (hps k o p ho hp).2.2 hro
          have hj2 : (demO s.H)[j]? = some x := by rw [hyes] at hj; exact hj
          obtain ⟨_, _, hno, _⟩ := demO_at hj2
          rcases hor with h1 | h1
          ·rw [hno] at h1; cases h1
          ·unfold Oj.own at h1; rw [hro] at h1; cases h1
        ·rcases place k o p g ho hp hat with hge | hro
         ·exact .inl (Nat.le_trans r3.kp.size hge)
         ·unfold Oj.fsh at hfs; rw [hro] at hfs; cases hfs
       ·intro L hL w' hX
        exact hL a w' hX r2 r1 (fun t x hx => by
         obtain ⟨e1, e2⟩ := frI_lk hx
         unfold feR
         rw [e1]
         exact r3.fr t _ e2)
      ·cases h1
     ·cases h1
    ·cases h1
   ·cases h
  ·cases h
 ·cases h
end
end Go.Sx
end
section
namespace Go.Sx
open Go.RowKit Go.Ch
section
variable {P : Program} {T : Tab} {ρ ρ' : Pls} {w w' : World} {bs : Bs} {w0 : World} {s s' : S} {a : Act} {N : Nat}
def rvA (T : Tab) (s : S) : ResultVar → Option AV
 | .tmp t => s.fr.lookup t
 | .cell p ty => match s.fr.lookup p with
  | some x => (match ldA T s.H ty x with | some ([], z) => some z | _ => none)
  | none => none
theorem loadAt_run {t : TypeId} {v u : Value} (h : (Instr.loadAt t v).run P w = .ok u w) : (do loadVar t (← asAddr v) : Sem Value).run P w = .ok u w := by
 unfold Instr.loadAt Instr.sureAddr at h
 cases v with
 | pointer a => cases a with
  | some a => simpa [asAddr] using h
  | none => simp at h
 | _ => simp at h
def rvM (tmps : Array Value) : ResultVar → Sem Value
 | .tmp t => pure (tmps.getD t undef)
 | .cell p ty => do loadVar ty (← asAddr (tmps.getD p undef))
theorem results_rv (fn : Func) (tmps : Array Value) : results fn tmps = (do
  let vs ← fn.results.mapM (rvM tmps)
  pure (if h : vs.size = 1 then vs[0] else .tuple vs)) := by
 unfold results
 have e : rvM tmps = fun r => (match r with | .tmp t => (pure (tmps.getD t undef) : Sem Value) | .cell p ty => (do loadVar ty (← asAddr (tmps.getD p undef)))) := by
  funext r; cases r <;> rfl
 rw [e]; rfl
theorem rvA_ok (hT : TabOk P T) (hr : RelA ρ bs w0 s a w) {r : ResultVar} {av : AV} (h : rvA T s r = some av) :
  ∃ v, (rvM a.tmps r).run P w = .ok v w ∧ avR ρ av v := by
 cases r with
 | tmp t => exact ⟨_, rfl, hr.fr t _ h⟩
 | cell p ty =>
  simp only [rvA] at h
  split at h
  ·rename_i x hx
   split at h
   ·rename_i z hz
    injection h with h; subst h
    obtain ⟨u, h1, h2⟩ := ldA_ok hT hr.hp hz allP_nil (hr.fr p x hx)
    exact ⟨u, loadAt_run h1, h2⟩
   ·cases h
  ·cases h
def a1Of : AV → Option A1
 | .c x => some (.c x)
 | .g n cs => some (.g n cs)
 | .t _ => none
theorem a1Of_ok {x : AV} {y : A1} (h : a1Of x = some y) {v : Value} (hv : avR ρ x v) : a1R ρ y v := by
 cases x <;> simp only [a1Of] at h <;> first | (injection h with h; subst h; exact hv) | cases h
def resA (T : Tab) (s : S) : List ResultVar → Option AV
 | [] => some (.t [])
 | [r] => rvA T s r
 | [r, r'] => (match rvA T s r, rvA T s r' with
  | some x, some y => (match a1Of x, a1Of y with | some x, some y => some (.t [x, y]) | _, _ => none)
  | _, _ => none)
 | [r, r', r''] => (match rvA T s r, rvA T s r', rvA T s r'' with
  | some x, some y, some z => (match a1Of x, a1Of y, a1Of z with | some x, some y, some z => some (.t [x, y, z]) | _, _, _ => none)
  | _, _, _ => none)
 | _ => none
theorem resA_ok (hT : TabOk P T) (hr : RelA ρ bs w0 s a w) {fn : Func} {rs : List ResultVar} (hf : fn.results = rs.toArray) {av : AV} (h : resA T s rs = some av) :
  ∃ v, (results fn a.tmps).run P w = .ok v w ∧ avR ρ av v := by
 unfold resA at h
 split at h
 ·injection h with h; subst h
  exact ⟨.tuple #[], by simp [results, hf], [], F2.nil, rfl⟩
 ·rename_i r
  obtain ⟨v, h1, h2⟩ := rvA_ok hT hr h
  refine ⟨v, ?_, h2⟩
  rw [results_rv, hf]; simp [h1]
 ·rename_i r r'
  split at h
  ·rename_i x y hx hy
   split at h
   ·rename_i x1 y1 hx1 hy1
    injection h with h; subst h
    obtain ⟨v, h1, h2⟩ := rvA_ok hT hr hx
    obtain ⟨u, h3, h4⟩ := rvA_ok hT hr hy
    refine ⟨.tuple #[v, u], ?_, [v, u], F2.cons (a1Of_ok hx1 h2) (F2.cons (a1Of_ok hy1 h4) F2.nil), rfl⟩
    rw [results_rv, hf]; simp [h1, h3]
   ·cases h
  ·cases h
 ·rename_i r r' r''
  split at h
  ·rename_i x y z hx hy hz
   split at h
   ·rename_i x1 y1 z1 hx1 hy1 hz1
    injection h with h; subst h
    obtain ⟨v, h1, h2⟩ := rvA_ok hT hr hx
    obtain ⟨u, h3, h4⟩ := rvA_ok hT hr hy
    obtain ⟨t, h5, h6⟩ := rvA_ok hT hr hz
    refine ⟨.tuple #[v, u, t], ?_, [v, u, t], F2.cons (a1Of_ok hx1 h2) (F2.cons (a1Of_ok hy1 h4) (F2.cons (a1Of_ok hz1 h6) F2.nil)), rfl⟩
    rw [results_rv, hf]; simp [h1, h3, h5]
   ·cases h
  ·cases h
 ·cases h
def retS (T : Tab) (s : S) (rs : List ResultVar) (objs : List Nat) : Option (AV × Hp) := match resA T s rs with
 | some av => (match keep [0] objs ⟨[(0, av)], [], s.H⟩ with
  | some ⟨[(0, x)], _, H⟩ => (match ltA H.length x && (ltH H.length H && noDp H) with | true => some (x, H) | false => none)
  | _ => none)
 | none => none
theorem retS_ok {gv : Nat → Value} (hT : TabOk P T) (hR : Rel N (noB gv) w s a w') {fn : Func} {rs : List ResultVar} (hf : fn.results = rs.toArray) {objs : List Nat} {av : AV} {H' : Hp} (h : retS T s rs objs = some (av, H')) {ρ0 : Pls} {H : Hp} :
  ∃ v, (results fn a.tmps).run P w' = .ok v w' ∧ Ext w w' ∧ ∃ ps, Left ρ0 w H (shA H.length av) (shH H.length H') v w' ps := by
 obtain ⟨_, _, ρ, hr⟩ := hR
 unfold retS at h
 split at h
 ·rename_i x hx
  obtain ⟨v, h1, h2⟩ := resA_ok hT hr hf hx
  split at h
  ·rename_i y gl H2 hk
   split at h
   ·rename_i hlt
    simp only [Bool.and_eq_true] at hlt
    injection h with h; simp only [Prod.mk.injEq] at h; obtain ⟨rfl, rfl⟩ := h
    have h0 : Rel 1 (noB gv) w ⟨[(0, x)], [], s.H⟩ { tmps := #[v], defers := [] } w' := ⟨rfl, rfl, ρ, fun t z hz => by
     rw [List.lookup_cons] at hz
     split at hz
     ·rename_i e
      have : t = 0 := by simpa using e
      subst this
      injection hz with hz; subst hz; exact h2
     ·simp at hz, GlR.nil, hr.hp, hr.sep, hr.own, hr.kp⟩
    obtain ⟨_, _, ρ2, hr2⟩ := keep_ok hk h0
    have hv := hr2.fr 0 y rfl
    exact ⟨v, h1, hr.kp.below, left_of hr2 hv hlt.1 hlt.2.1 hlt.2.2⟩
   ·cases h
  ·cases h
 ·cases h
def aGc (n : Nat) : AV → Option (List Cl) | .g m (.c l) => (match Nat.beq m n && Nat.beq l.length n with | true => some l | false => none) | _ => none
theorem F2.getD {l : List Cl} {vs : List Value} (h : F2 (clR ρ) l vs) (i : Nat) (hi : i < vs.length) : avR ρ (.c (l.getD i .junk)) (vs.getD i undef) := by
 have hl : i < l.length := by have := h.1; omega
 have := h.2 i _ _ (List.getElem?_eq_getElem hl) (List.getElem?_eq_getElem hi)
 show clR ρ _ _
 rw [List.getD_eq_getElem?_getD, List.getD_eq_getElem?_getD, List.getElem?_eq_getElem hl, List.getElem?_eq_getElem hi]
 exact this
theorem aGc_ok {n : Nat} {x : AV} {l : List Cl} (h : aGc n x = some l) {v : Value} (hv : avR ρ x v) : ∃ vs : List Value, vs.length = n ∧ v = .agg vs.toArray ∧ ∀ i, i < n → avR ρ (.c (l.getD i .junk)) (vs.getD i undef) := by
 unfold aGc at h
 split at h
 ·split at h
  ·rename_i hm
   simp only [Bool.and_eq_true] at hm
   injection h with h; subst h
   have e := Nat.eq_of_beq_eq_true hm.1
   have e2 := Nat.eq_of_beq_eq_true hm.2
   subst e
   obtain ⟨vs, h1, h2, h3⟩ := hv
   have h1' : F2 (clR ρ) _ vs := h1
   refine ⟨vs, h2, h3, fun i hi => ?_⟩
   have := F2.getD h1' i (by omega)
   exact this
  ·cases h
 ·cases h
end
end Go.Sx
end
section
namespace Go.Sx
open Go.RowKit Go.Ch
section
variable {P : Program} {ρ : Pls} {w w' : World} {H : Hp}
theorem left_row {v : Value} {e : TypeId} {vs : List Value} {cs : Cs} {n : Nat} (h : Own w' w.heap.size e v vs) (hc : ∀ ρ, csR ρ cs vs) (hn : vs.length = n) :
  ∃ ps, Left ρ w H (.c (.wh H.length)) [⟨.row, e, 1, n, cs⟩] v w' ps := by
 obtain ⟨n', h1⟩ : ∃ n', w'.ownsRow w.heap.size e 1 v n' vs := ⟨_, h⟩
 have hl := h1.1
 rw [Nat.mul_one] at hl
 have hn' : n' = n := by omega
 subst hn'
 have hv : ∃ p : Pl, v = .slice p.A p.n p.cap ∧ p.sz = 1 ∧ p.n = n' ∧ ∀ g, (∃ ad, p.A = some ad ∧ ad.block = g) → w.heap.size ≤ g := by
  rcases h1.2 with ⟨hv, hn0⟩ | ⟨g, cap, cur, hv, hg, _⟩
  ·exact ⟨(pl4 none 0 0 1), hv, rfl, hn0.symm, fun g ⟨ad, had, _⟩ => by cases had⟩
  ·exact ⟨(pl4 (some ⟨g, 0, none⟩) n' cap 1), hv, rfl, rfl, fun g' ⟨ad, had, he⟩ => by injection had with had; subst had; subst he; exact hg⟩
 obtain ⟨p, rfl, e1, e2, hp⟩ := hv
 have hu : updL ρ H.length [p] (H.length + 0) = p := updL_at rfl
 rw [Nat.add_zero] at hu
 refine ⟨[p], rfl, fun k o q ho hq => ?_, ?_, fun k o q g ho hq hat => ?_, fun k l o o' q q' g hkl ho ho' => ?_⟩
 ·cases k with
  | zero =>
   simp at ho hq; subst ho; subst hq
   refine ⟨⟨e1, e2, by rw [← (hc (updL ρ H.length [p])).len, hl]; simp⟩, vs, hc _, ?_⟩
   rw [e2]
   refine ⟨h1.1, ?_⟩
   rcases h1.2 with h2 | ⟨g, cap, cur, hv, _, h2⟩
   ·rw [e2] at h2; exact .inl h2
   ·rw [e2] at hv; exact .inr ⟨g, cap, cur, hv, Nat.zero_le _, h2⟩
  | succ k => simp at ho
 ·show clR _ (.wh _) _
  simp only [clR, hu]
 ·cases k with
  | zero => simp at ho hq; subst ho; subst hq; exact .inl (hp g hat)
  | succ k => simp at ho
 ·cases k with
  | zero => cases l with
   | zero => exact absurd rfl hkl
   | succ l => simp at ho'
  | succ k => simp at ho
theorem left_val {v : Value} {av : AV} (h : ∀ ρ, avR ρ av v) : ∃ ps, Left ρ w H av [] v w' ps :=
 ⟨[], rfl, fun k o q ho => by simp at ho, h _, fun k o q g ho => by simp at ho, fun k l o o' q q' g hkl ho => by simp at ho⟩
theorem calls_mono {f : FuncId} {args : Array Value} {R R' : Value → World → Prop} (h : Calls P f args w (Ret R)) (hR : ∀ v w', R v w' → R' v w') : Calls P f args w (Ret R') :=
 h.mono fun _ _ ⟨v, he, hr⟩ => ⟨v, he, hR v _ hr⟩
theorem InSl.sl {e : TypeId} {n : Nat} {cs : Cs} {v : Value} {p : Pl} (h : InSl w e n cs v p) {vs : List Value} (hc : ∀ ρ us, csR ρ cs us → us = vs) (hn : vs.length = n) : Sl w w.heap.size v vs := by
 obtain ⟨rfl, hr⟩ := h
 obtain ⟨⟨e1, e2, e3⟩, ⟨h1, h2, h3⟩, us, hcs, hA⟩ := hr (fun _ => p)
 obtain rfl := hc _ us hcs
 have e4 : p.n = us.length := by rw [hn]; exact e2
 refine ⟨Nat.le_refl _, p.A, p.cap, by rw [e4], by rw [← e4]; exact h1, h2, h3, fun ad had j u hu => ⟨?_, hA ad had j u hu⟩⟩
 have := World.block_lt_of_cell? _ _ (hA ad had j u hu)
 rwa [block_add] at this
end
end Go.Sx
end
section
namespace Go.Sx
open Go.RowKit Go.Ch
theorem okI64 {n : Int} (h0 : -9223372036854775808 ≤ n) (h1 : n < 9223372036854775808) : okI .i64 n := by
 unfold okI IntKind.wrap
 simp [IntKind.bits, IntKind.signed]
 omega
theorem ite_t {α : Type} {b : Bool} {x y : α} (h : b = true) : (bif b then x else y) = x := by rw [h]; rfl
theorem ite_f {α : Type} {b : Bool} {x y : α} (h : b = false) : (bif b then x else y) = y := by rw [h]; rfl
theorem law_of {P : Program} {I : World → Prop} {f : FuncId} {F : Ct} {args : List AV} {H : Hp} {g : List Prop} {objs : List Oj} {ρ : Pls} {w : World} {vals : List Value} (h : FnOk P I f F) (hF : F args H = some (g, .c (.s (.b true)), objs)) (hg : allP g)
  (hI : I w) (hp : HpR ρ w H) (ha : F2 (avR ρ) args vals) : Calls P f vals.toArray w (Ret fun v w' => Ext w w' ∧ v = .bool true) :=
 calls_mono (h.ct args H g _ objs hF hg ρ w vals hI hp ha) fun _ _ ⟨hx, _, hL⟩ => ⟨hx, hL.val⟩
end Go.Sx
end
section
namespace Go.Ch
open Go.ChangeShapes Go.WideShapes Go.RowKit
theorem u32_of_int {z : Int} (h : (Lit.int .u32 z).wf = true) : ∃ x : UInt32, Value.int .u32 z = w32 x := by
 simp [Lit.wf, IntKind.min, IntKind.max, IntKind.signed, IntKind.bits] at h
 refine ⟨UInt32.ofNat z.toNat, ?_⟩
 unfold w32
 congr 1
 simp
 omega
theorem words_of_ints {zs : List Int} (h : ∀ z ∈ zs, (Lit.int .u32 z).wf = true) : ∃ ws : List UInt32, zs.map (Value.int .u32) = ws.map w32 ∧ ws.length = zs.length := by
 induction zs with
 | nil => exact ⟨[], rfl, rfl⟩
 | cons z zs ih =>
  obtain ⟨ws, h1, h2⟩ := ih (fun y hy => h y (by simp [hy]))
  obtain ⟨x, hx⟩ := u32_of_int (h z (by simp))
  exact ⟨x :: ws, by simp [h1, hx], by simp [h2]⟩
end Go.Ch
namespace Go.Proofs.Ytobfglafchoipaa
open Go.ChangeShapes Go.WideShapes Go.ChangeAt Go.RowKit Go.Ch
theorem own : ownKnob Try.prog.godebug = none := by kernel_rfl
theorem laidOut : laidOutB Try.prog = true := by kernel_rfl
end Go.Proofs.Ytobfglafchoipaa
end
section
namespace Go.Sx
open Go.RowKit Go.Ch
section
variable {P : Program} {T : Tab} {ft : Nat → FT} {ρ : Pls} {w w' : World} {bs : Bs} {w0 wB : World} {s s' : S} {a : Act} {N m : Nat}
def XS (wA wB : World) (a b : World) : Prop := a = b ∨ (a = wA ∧ b = wB)
theorem XS.tr {wA wB a b c : World} (h1 : XS wA wB a b) (h2 : XS wA wB b c) : XS wA wB a c := by
 rcases h1 with rfl | ⟨rfl, rfl⟩
 ·exact h2
 ·rcases h2 with rfl | ⟨_, rfl⟩
  ·exact .inr ⟨rfl, rfl⟩
  ·exact .inr ⟨rfl, rfl⟩
end
end Go.Sx
end
section
namespace Go.Sx
open Go.RowKit Go.Ch
section
variable {P : Program} {T : Tab} {ρ ρ' : Pls} {w w' : World} {bs : Bs} {w0 : World} {s s' : S} {a : Act} {N : Nat}
theorem GlR.cons {gl : Fr} {x : AV} (j : Nat) (hx : avR ρ x (bs.gv j)) (h : GlR bs ρ gl) : GlR bs ρ ((1000000 + j, x) :: gl) := by
 intro t y hy
 rw [List.lookup_cons] at hy
 split at hy
 ·rename_i e
  have e : t = 1000000 + j := by simpa using e
  subst e
  injection hy with hy; subst hy
  unfold gvOf
  rw [if_neg (by omega), Nat.add_sub_cancel_left]
  exact hx
 ·exact h t y hy
end
end Go.Sx
end
section
namespace Go.Sx
open Go.RowKit Go.Ch
section
variable {P : Program} {T : Tab} {ft : Nat → FT} {ρ : Pls} {w w' : World} {bs : Bs} {w0 : World} {s s' : S} {a a' : Act} {N : Nat} {ops : Array Oper} {asm : List (Nat × Bool)}
def vA (asm : List (Nat × Bool)) (i : Nat) (r : List Prop × AV) : Option (List Prop × AV) := match asm.lookup i with
 | none => some r
 | some bv => match r with
  | (g, .c (.s (.b e))) => some (g ++ [e = bv], .c (.s (.b bv)))
  | _ => none
def puV (T : Tab) (asm : List (Nat × Bool)) (i : Nat) (o : Oper) (s : S) : Option (List Prop × AV) := match vop T s.H (ev0 s.fr s.gl) o.op with
 | some r => vA asm i r
 | none => none
def puG (T : Tab) (ops : Array Oper) (asm : List (Nat × Bool)) (i : Nat) (o : Oper) (s : S) : Option (List Prop × AV) := match o.guard with
 | none => puV T asm i o s
 | some (j, want) => match (ops[j]?).bind (·.dst) with
  | none => none
  | some dj => match s.fr.lookup dj with
   | some (.c (.s (.b b))) => (match b, want with
    | true, true => puV T asm i o s
    | false, false => puV T asm i o s
    | true, false => some ([], .t [])
    | false, true => some ([], .t []))
   | some (.t []) => some ([], .t [])
   | _ => none
def runP (T : Tab) (N : Nat) (ops : Array Oper) (asm : List (Nat × Bool)) : List Nat → S → Option (List Prop × S)
 | [], s => some ([], s)
 | i :: is, s => match ops[i]? with
  | none => none
  | some o => match dOk N o.dst, puG T ops asm i o s with
   | true, some (g, z) => (match runP T N ops asm is ⟨putF s.fr o.dst z, s.gl, s.H⟩ with
    | some (g2, s2) => some (g ++ g2, s2)
    | none => none)
   | _, _ => none
structure Ed where
 n : Nat
 m : Nat
 t : Nat
 ps : List Nat
 cs : List Co
 live : List Nat
 objs : List Nat
def stE (T : Tab) (ft : Nat → FT) (N : Nat) (ops : Array Oper) (asm : List (Nat × Bool)) (e : Ed) (s : S) : Option (List Prop × S) := match ops[e.m]? with
 | none => none
 | some o => match stG T ft N ops asm e.m o s with
  | none => none
  | some (g1, s1) => match runP T N ops asm e.ps s1 with
   | none => none
   | some (g2, s2) => match after e.cs e.live e.objs s2 with
    | none => none
    | some s3 => some (g1 ++ g2, s3)
def rdL (T : Tab) (ops : Array Oper) (asm : List (Nat × Bool)) (p : Nat) (s : S) : Option (Option (List Prop × AV)) := match ops[p]? with
 | some o => some (puG T ops asm p o s)
 | none => none
def rdR (ops : Array Oper) (g : List Prop) (p : Nat) (s : S) : Option (Option (List Prop × AV)) := match (ops[p]?).bind (·.dst) with
 | some d => (match s.fr.lookup d with | some z => some (some (g, z)) | none => none)
 | none => none
inductive AllE (T : Tab) (ft : Nat → FT) (N : Nat) (ops : Array Oper) (asm : List (Nat × Bool)) (sts : List S) (s : S) : List Ed → Prop
 | nil : AllE T ft N ops asm sts s []
 | cons {e : Ed} {l : List Ed} : (∃ g, stE T ft N ops asm e (sts.getD e.n s) = some (g, sts.getD e.t s) ∧ allP g) → AllE T ft N ops asm sts s l → AllE T ft N ops asm sts s (e :: l)
inductive AllR (T : Tab) (ops : Array Oper) (asm : List (Nat × Bool)) (sts : List S) (s : S) : List (Nat × Nat) → Prop
 | nil : AllR T ops asm sts s []
 | cons {k p : Nat} {l : List (Nat × Nat)} : (∃ g, rdL T ops asm p (sts.getD k s) = rdR ops g p (sts.getD k s) ∧ allP g) → AllR T ops asm sts s l → AllR T ops asm sts s ((k, p) :: l)
def okOps (ops : Array Oper) (N : Nat) (pu : List Nat) : Bool :=
 (List.range ops.size).all fun i => match ops[i]? with
  | none => false
  | some o => okEdges o (fun j => decide (j < i)) && ((match o.op with | .select _ _ => false | _ => true) &&
    (((o.looksAt ops).all fun t => pu.all fun p => match ops[p]? with | some q => q.dst != some t || inC ops i ops.size p | none => true) &&
    (!pu.contains i || (match o.dst with | some d => decide (d < N) | none => false))))
def okNode (ops : Array Oper) (pu : List Nat) (es : List Ed) (rd : List (Nat × Nat)) (k : Nat) (dn : List Nat) : Bool :=
 (List.range ops.size).all fun i => match dn.contains i with
  | true => !pu.contains i || (rd.contains (k, i) || dn.any fun m => !pu.contains m && (decide (m < ops.size) && inC ops m ops.size i))
  | false => (!pu.contains i && es.any fun e => Nat.beq e.n k && Nat.beq e.m i) || (List.range ops.size).any fun j => hasE ops i j && !dn.contains j
def okEdge (pu : List Nat) (nodes : List (List Nat)) (e : Ed) : Bool := match nodes[e.n]?, nodes[e.t]? with
 | some dn, some dt => !pu.contains e.m && (!dn.contains e.m && (e.ps.all (fun p => pu.contains p && !dn.contains p) && (dt.all (fun i => Nat.beq i e.m || (e.ps.contains i || dn.contains i)) && (dn.all (fun i => dt.contains i) && dt.contains e.m))))
 | _, _ => false
def okPlan (ops : Array Oper) (N : Nat) (pu : List Nat) (nodes : List (List Nat)) (ps0 : List Nat) (es : List Ed) (rd : List (Nat × Nat)) (fin : Nat) : Bool :=
 okOps ops N pu && (((List.range nodes.length).all fun k => okNode ops pu es rd k (nodes.getD k [])) && (es.all (okEdge pu nodes) &&
  ((ps0.all fun p => pu.contains p) && (((nodes.getD 0 []).all fun p => pu.contains p) && (decide (0 < nodes.length) &&
   ((List.range nodes.length).all fun k => Nat.beq k fin || (List.range ops.size).any fun i => !(nodes.getD k []).contains i))))))
structure Pln (ops : Array Oper) (N : Nat) (pu : List Nat) (nodes : List (List Nat)) (ps0 : List Nat) (es : List Ed) (rd : List (Nat × Nat)) (fin : Nat) : Prop where
 edges : ∀ (i : Nat) (o : Oper), ops[i]? = some o → okEdges o (fun j => decide (j < i)) = true
 nosel : ∀ (i : Nat) (o : Oper), ops[i]? = some o → ∀ cs b, o.op ≠ .select cs b
 look : ∀ (i : Nat) (o : Oper), ops[i]? = some o → ∀ t ∈ o.looksAt ops, ∀ p, p ∈ pu → ∀ (q : Oper), ops[p]? = some q → q.dst = some t → inC ops i ops.size p = true
 pdst : ∀ (p : Nat) (o : Oper), p ∈ pu → ops[p]? = some o → ∃ d, o.dst = some d ∧ d < N
 nin : ∀ k dn, nodes[k]? = some dn → ∀ i, i < ops.size → i ∈ dn → i ∈ pu → (k, i) ∈ rd ∨ ∃ m ∈ dn, m ∉ pu ∧ m < ops.size ∧ inC ops m ops.size i = true
 nout : ∀ k dn, nodes[k]? = some dn → ∀ i, i < ops.size → i ∉ dn → (i ∉ pu ∧ ∃ e ∈ es, e.n = k ∧ e.m = i) ∨ ∃ j, hasE ops i j = true ∧ j ∉ dn
 edge : ∀ e ∈ es, ∃ dn dt, nodes[e.n]? = some dn ∧ nodes[e.t]? = some dt ∧ e.m ∉ pu ∧ e.m ∉ dn ∧ (∀ p ∈ e.ps, p ∈ pu ∧ p ∉ dn) ∧ (∀ i ∈ dt, i = e.m ∨ i ∈ e.ps ∨ i ∈ dn) ∧ (∀ i ∈ dn, i ∈ dt) ∧ e.m ∈ dt
 start : ∀ p ∈ ps0, p ∈ pu
 zero : ∃ dn, nodes[0]? = some dn ∧ ∀ p ∈ dn, p ∈ pu
 last : ∀ k dn, nodes[k]? = some dn → (∀ i, i < ops.size → i ∈ dn) → k = fin
theorem Pln.of {pu : List Nat} {nodes : List (List Nat)} {ps0 : List Nat} {es : List Ed} {rd : List (Nat × Nat)} {fin : Nat} (h : okPlan ops N pu nodes ps0 es rd fin = true) : Pln ops N pu nodes ps0 es rd fin := by
 unfold okPlan at h
 simp only [Bool.and_eq_true] at h
 obtain ⟨h1, h2, h3, h4, h5, h6, h7⟩ := h
 have H : ∀ (i : Nat) (o : Oper), ops[i]? = some o → _ := fun i o ho => by
  have hi := (Array.getElem?_eq_some_iff.1 ho).1
  have := List.all_eq_true.1 h1 i (List.mem_range.2 hi)
  rw [ho] at this
  simp only [Bool.and_eq_true] at this
  exact this
 have nd : ∀ k dn, nodes[k]? = some dn → k < nodes.length ∧ nodes.getD k [] = dn := fun k dn hk => ⟨(List.getElem?_eq_some_iff.1 hk).1, by rw [List.getD_eq_getElem?_getD, hk]; rfl⟩
 refine ⟨fun i o ho => (H i o ho).1, fun i o ho cs b e => ?_, fun i o ho t ht p hp q hq hd => ?_, fun p o hp ho => ?_, fun k dn hk i hi hin hpu => ?_, fun k dn hk i hi hin => ?_, fun e he => ?_, fun p hp => ?_, ⟨nodes.getD 0 [], ?_, fun p hp => ?_⟩, fun k dn hk hall => ?_⟩
 ·have := (H i o ho).2.1
  rw [e] at this; cases this
 ·have := List.all_eq_true.1 (List.all_eq_true.1 (H i o ho).2.2.1 t ht) p hp
  rw [hq] at this
  simp only [hd, Bool.or_eq_true, bne_self_eq_false, Bool.false_eq_true, false_or] at this
  exact this
 ·have := (H p o ho).2.2.2
  rw [show pu.contains p = true by simpa using hp] at this
  simp only [Bool.not_true, Bool.false_or] at this
  cases hd : o.dst with
  | none => rw [hd] at this; cases this
  | some d => rw [hd] at this; exact ⟨d, rfl, by simpa using this⟩
 ·obtain ⟨hk1, hk2⟩ := nd k dn hk
  have := List.all_eq_true.1 (List.all_eq_true.1 h2 k (List.mem_range.2 hk1)) i (List.mem_range.2 hi)
  rw [hk2, show dn.contains i = true by simpa using hin, show pu.contains i = true by simpa using hpu] at this
  simp only [Bool.not_true, Bool.false_or, Bool.or_eq_true, List.any_eq_true, Bool.and_eq_true, decide_eq_true_eq, Bool.not_eq_true'] at this
  rcases this with h | ⟨m, hm, h1, h2, h3⟩
  ·exact .inl (by simpa using h)
  ·exact .inr ⟨m, hm, by simpa using h1, h2, h3⟩
 ·obtain ⟨hk1, hk2⟩ := nd k dn hk
  have := List.all_eq_true.1 (List.all_eq_true.1 h2 k (List.mem_range.2 hk1)) i (List.mem_range.2 hi)
  rw [hk2, show dn.contains i = false by simpa using hin] at this
  simp only [Bool.or_eq_true, List.any_eq_true, Bool.and_eq_true, Bool.not_eq_true'] at this
  rcases this with ⟨h, e, he, h1, h2⟩ | ⟨j, _, h1, h2⟩
  ·exact .inl ⟨by simpa using h, e, he, Nat.eq_of_beq_eq_true h1, Nat.eq_of_beq_eq_true h2⟩
  ·exact .inr ⟨j, h1, by simpa using h2⟩
 ·have := List.all_eq_true.1 h3 e he
  unfold okEdge at this
  split at this
  ·rename_i dn dt hn ht
   simp only [Bool.and_eq_true, List.all_eq_true, Bool.not_eq_true', Bool.or_eq_true] at this
   obtain ⟨g1, g2, g3, g4, g5, g6⟩ := this
   refine ⟨dn, dt, hn, ht, by simpa using g1, by simpa using g2, fun p hp => ?_, fun i hi => ?_, fun i hi => ?_, by simpa using g6⟩
   ·have := g3 p hp; exact ⟨by simpa using this.1, by simpa using this.2⟩
   ·rcases g4 i hi with h | h | h
    ·exact .inl (Nat.eq_of_beq_eq_true h)
    ·exact .inr (.inl (by simpa using h))
    ·exact .inr (.inr (by simpa using h))
   ·simpa using g5 i hi
  ·cases this
 ·simpa using List.all_eq_true.1 h4 p hp
 ·have h6' : 0 < nodes.length := by simpa using h6
  rw [List.getD_eq_getElem?_getD, List.getElem?_eq_getElem h6']; rfl
 ·simpa using List.all_eq_true.1 h5 p hp
 ·obtain ⟨hk1, hk2⟩ := nd k dn hk
  have := List.all_eq_true.1 h7 k (List.mem_range.2 hk1)
  simp only [Bool.or_eq_true, List.any_eq_true, List.mem_range, Bool.not_eq_true'] at this
  rcases this with h | ⟨i, hi, h⟩
  ·exact Nat.eq_of_beq_eq_true h
  ·rw [hk2] at h
   have := hall i hi
   simp only [List.contains_eq_mem, decide_eq_false_iff_not] at h
   exact absurd this h
theorem Act.same {a a' : Act} (h : a.tmps.size = a'.tmps.size) (hd : a.defers = a'.defers) (ht : ∀ t, a.tmps.getD t undef = a'.tmps.getD t undef) : a = a' := by
 obtain ⟨x, d⟩ := a; obtain ⟨y, d'⟩ := a'
 simp only at h hd ht
 subst hd
 have : x = y := by
  apply Array.ext h
  intro i h1 h2
  have := ht i
  simpa only [Array.getD_eq_getD_getElem?, Array.getElem?_eq_getElem h1, Array.getElem?_eq_getElem h2, Option.getD_some] using this
 rw [this]
end
end Go.Sx
end
section
namespace Go.Sx
open Go.RowKit Go.Ch
abbrev kI (n : Int) : AV := .c (.s (.k .i64 n))
abbrev kB (b : Bool) : AV := .c (.s (.b b))
abbrev kH (i : Nat) : AV := .c (.wh i)
abbrev kU (x : UInt8) : AV := .c (.s (.u8 x))
abbrev kX (x : UInt32) : AV := .c (.s (.u32 x))
abbrev kT (l : List UInt8) : AV := .c (.s (.str l))
abbrev kE (t : TypeId) (o : Option Int) : AV := .c (.s (.er t .i64 o))
abbrev kP (i off : Nat) : AV := .c (.pt i off)
abbrev ob (e : TypeId) (l : List UInt8) : Oj := ⟨.ro false, e, 1, l.length, .b l⟩
abbrev ow (e : TypeId) (l : List UInt32) : Oj := ⟨.ro false, e, 1, l.length, .w l⟩
abbrev nb (e : TypeId) (l : List UInt8) : Oj := ⟨.row, e, 1, l.length, .b l⟩
abbrev nw (e : TypeId) (l : List UInt32) : Oj := ⟨.row, e, 1, l.length, .w l⟩
theorem aP {p : Prop} {ps : List Prop} (h : p) (hs : allP ps) : allP (p :: ps) := allP_cons.2 ⟨h, hs⟩
theorem aN : allP [] := allP_nil
section
variable {P : Program} {T : Tab} {ρ : Pls} {w w' : World} {bs : Bs} {w0 : World} {s : S} {a : Act} {N : Nat} {ft : Nat → FT} {Q : Exit → S → Prop}
theorem fM (k : Nat) {J : World → Prop} {f : FuncId} {F : CtM} {l : List (Nat × FuncId × CtS)} (h : FnMOk P f F) (hl : ∀ i, FtOk P J (ftL l i)) : ∀ i, FtOk P J (ftL ((k, f, .m F) :: l) i) := ftL_consM h hl
theorem fT (k : Nat) {J : World → Prop} {f : FuncId} {F : Ct} {l : List (Nat × FuncId × CtS)} (h : FnOk P Tr f F) (hl : ∀ i, FtOk P J (ftL l i)) : ∀ i, FtOk P J (ftL ((k, f, .p F) :: l) i) := ftL_cons h (fun _ _ => True.intro) hl
theorem fN {J : World → Prop} : ∀ i, FtOk P J (ftL [] i) := ftL_nil
theorem Vr (hT : TabOk P T) {id : Nat} {l : List Oper} (objs : List Nat) (s' : S) (hQ : Q .normal s') (h : reg T (ftL []) N [] [] (s'.fr.map (·.1)) objs l s = some ([], s') := by kernel_rfl) :
  W P N bs w0 (.region id l.toArray false) s Q := W_reg hT ftL_nil [] [] _ objs h allP_nil hQ
theorem Vrs (hT : TabOk P T) {id : Nat} {l : List Oper} {y : Code} (objs : List Nat) (s' : S) (hQ : W P N bs w0 y s' Q) (h : reg T (ftL []) N [] [] (s'.fr.map (·.1)) objs l s = some ([], s') := by kernel_rfl) :
  W P N bs w0 (.seq (.region id l.toArray false) y) s Q := W_seq (Vr hT objs s' hQ h)
theorem Vg (hT : TabOk P T) (hF : ∀ i, FtOk P (Kp bs w0) (ft i)) {id : Nat} {l : List Oper} (asm : List (Nat × Bool)) (cs : List Co) (objs : List Nat) {g : List Prop} (s' : S) (hg : allP g) (hQ : Q .normal s') (h : reg T ft N asm cs (s'.fr.map (·.1)) objs l s = some (g, s') := by kernel_rfl) :
  W P N bs w0 (.region id l.toArray false) s Q := W_reg hT hF asm cs _ objs h hg hQ
theorem Vgs (hT : TabOk P T) (hF : ∀ i, FtOk P (Kp bs w0) (ft i)) {id : Nat} {l : List Oper} {y : Code} (asm : List (Nat × Bool)) (cs : List Co) (objs : List Nat) {g : List Prop} (s' : S) (hg : allP g) (hQ : W P N bs w0 y s' Q) (h : reg T ft N asm cs (s'.fr.map (·.1)) objs l s = some (g, s') := by kernel_rfl) :
  W P N bs w0 (.seq (.region id l.toArray false) y) s Q := W_seq (Vg hT hF asm cs objs s' hg hQ h)
theorem Vd (hT : TabOk P T) (hF : ∀ i, FtOk P (Kp bs w0) (ft i)) {id : Nat} {l : List Oper} (k : Nat) (asm ks : List (Nat × Bool)) (cs : List Co) (objs : List Nat) {g : List Prop} (s' : S) (hg : allP g) (hQ : Q .normal s')
  (hm : P.follows .mixedOrders = true := by kernel_rfl) (hr : (okRegion l.toArray k N && decide (k ≤ l.length)) = true := by kernel_rfl) (h : regD T ft N k asm ks cs (s'.fr.map (·.1)) objs l s = some (g, s') := by kernel_rfl) :
  W P N bs w0 (.region id l.toArray true) s Q := W_regD hT hF hm k asm ks cs _ objs hr h hg hQ
theorem Vds (hT : TabOk P T) (hF : ∀ i, FtOk P (Kp bs w0) (ft i)) {id : Nat} {l : List Oper} {y : Code} (k : Nat) (asm ks : List (Nat × Bool)) (cs : List Co) (objs : List Nat) {g : List Prop} (s' : S) (hg : allP g) (hQ : W P N bs w0 y s' Q)
  (hm : P.follows .mixedOrders = true := by kernel_rfl) (hr : (okRegion l.toArray k N && decide (k ≤ l.length)) = true := by kernel_rfl) (h : regD T ft N k asm ks cs (s'.fr.map (·.1)) objs l s = some (g, s') := by kernel_rfl) :
  W P N bs w0 (.seq (.region id l.toArray true) y) s Q := W_seq (Vd hT hF k asm ks cs objs s' hg hQ hm hr h)
theorem Vc {c : Code} (cs : List Co) (objs : List Nat) (s' : S) (hW : W P N bs w0 c s' Q) (h : after cs (s'.fr.map (·.1)) objs s = some s' := by kernel_rfl) : W P N bs w0 c s Q := W_co cs _ objs h hW
theorem Vi {t : Nat} {x y : Code} (b : Bool) (hx : b = true → W P N bs w0 x s Q) (hy : b = false → W P N bs w0 y s Q) (hb : s.fr.lookup t = some (.c (.s (.b b))) := by kernel_rfl) : W P N bs w0 (.cond (.tmp t) x y) s Q := W_cond hb hx hy
end
theorem gd2 {α : Type} {p q : Prop} [Decidable p] [Decidable q] {x : Option α} {r : α} (h : gd p (gd q x) = some r) : p ∧ q ∧ x = some r := ⟨(gd_some h).1, gd_some (gd_some h).2⟩
theorem gd3 {α : Type} {p q p3 : Prop} [Decidable p] [Decidable q] [Decidable p3] {x : Option α} {r : α} (h : gd p (gd q (gd p3 x)) = some r) : p ∧ q ∧ p3 ∧ x = some r := ⟨(gd_some h).1, gd2 (gd_some h).2⟩
theorem gd4 {α : Type} {p q p3 p4 : Prop} [Decidable p] [Decidable q] [Decidable p3] [Decidable p4] {x : Option α} {r : α} (h : gd p (gd q (gd p3 (gd p4 x))) = some r) : p ∧ q ∧ p3 ∧ p4 ∧ x = some r := ⟨(gd_some h).1, gd3 (gd_some h).2⟩
theorem gd5 {α : Type} {p q p3 p4 p5 : Prop} [Decidable p] [Decidable q] [Decidable p3] [Decidable p4] [Decidable p5] {x : Option α} {r : α} (h : gd p (gd q (gd p3 (gd p4 (gd p5 x)))) = some r) : p ∧ q ∧ p3 ∧ p4 ∧ p5 ∧ x = some r := ⟨(gd_some h).1, gd4 (gd_some h).2⟩
def ct0 (k : Hp → List Prop × AV × List Oj) : Ct := fun args H => match args with | [] => some (k H) | _ => none
def ctc {α : Type} (rd : Hp → AV → Option α) (k : AV → α → Ct) : Ct := fun args H => match args with | x :: xs => (match rd H x with | some a => k x a xs H | none => none) | [] => none
theorem ct0_inv {k : Hp → List Prop × AV × List Oj} {args : List AV} {H : Hp} {g : List Prop} {av : AV} {os : List Oj} (h : ct0 k args H = some (g, av, os)) : args = [] ∧ (k H).1 = g ∧ (k H).2.1 = av ∧ (k H).2.2 = os := by
 unfold ct0 at h
 split at h
 ·injection h with h; rw [h]; exact ⟨rfl, rfl, rfl, rfl⟩
 ·cases h
theorem ctc_inv {α : Type} {rd : Hp → AV → Option α} {k : AV → α → Ct} {args : List AV} {H : Hp} {y : List Prop × AV × List Oj} (h : ctc rd k args H = some y) : ∃ x xs a, args = x :: xs ∧ rd H x = some a ∧ k x a xs H = some y := by
 cases args with
 | nil => cases h
 | cons x xs =>
  simp only [ctc] at h
  split at h
  ·rename_i a ha; exact ⟨x, xs, a, rfl, ha, h⟩
  ·cases h
end Go.Sx
end
section
namespace Go.Sx
open Go.RowKit Go.Ch
abbrev Pat (ps : List Pl) (k : Nat) (ρ' : Pls) : Prop := ∀ j p, ps[j]? = some p → ρ' (k + j) = p
structure Rd (α : Type) where
 rd : Hp → AV → Option α
 op : Nat → α → AV
 os : Nat → α → List Oj
 pr : α → Prop
 ok : ∀ {ρ : Pls} {w : World} {H : Hp} {x : AV} {a : α} {v : Value}, HpR ρ w H → rd H x = some a → avR ρ x v → pr a ∧ ∃ ps : List Pl, (∀ k, (os k a).length = ps.length ∧ allRo (os k a) = true) ∧ ∀ (k : Nat) (ρ' : Pls), Pat ps k ρ' → F2 (fun o p => objR ρ' w p o) (os k a) ps ∧ avR ρ' (op k a) v
structure RdL (α : Type) where
 n : Nat
 rd : Hp → List Cl → Option α
 op : Nat → α → List Cl
 os : Nat → α → List Oj
 ok : ∀ {ρ : Pls} {w : World} {H : Hp} {x : List Cl} {a : α} {v : List Value}, HpR ρ w H → rd H x = some a → F2 (clR ρ) x v → ∃ ps : List Pl, (∀ k, (os k a).length = ps.length ∧ allRo (os k a) = true) ∧ ∀ (k : Nat) (ρ' : Pls), Pat ps k ρ' → F2 (fun o p => objR ρ' w p o) (os k a) ps ∧ F2 (clR ρ') (op k a) v
theorem Rd.p1 {w : World} {p : Pl} {o : Oj} {v : Value} (hr : allRo [o] = true) (hv : v = .slice p.A p.n p.cap) (h : ∀ ρ', objR ρ' w p o) : ∃ ps : List Pl, (∀ _ : Nat, [o].length = ps.length ∧ allRo [o] = true) ∧ ∀ (k : Nat) (ρ' : Pls), Pat ps k ρ' → F2 (fun o p => objR ρ' w p o) [o] ps ∧ avR ρ' (kH k) v :=
 ⟨[p], fun _ => ⟨rfl, hr⟩, fun k ρ' hk => ⟨F2.cons (h ρ') F2.nil, by have e := hk 0 p rfl; rw [Nat.add_zero] at e; show _ = _; rw [e]; exact hv⟩⟩
theorem allRo_append : ∀ {a b : Hp}, allRo a = true → allRo b = true → allRo (a ++ b) = true
 | [], _, _, hb => hb
 | x :: l, b, ha, hb => by
  simp only [allRo, Bool.and_eq_true, List.cons_append] at ha ⊢
  exact ⟨ha.1, allRo_append ha.2 hb⟩
abbrev rB (e : TypeId) : Rd (List UInt8) := ⟨aB, fun k _ => kH k, fun _ l => [ob e l], fun _ => True, fun hp h hv => by
 obtain ⟨p, s, o⟩ := aB_ok hp h hv e
 exact ⟨True.intro, Rd.p1 rfl s o⟩⟩
abbrev rW (e : TypeId) : Rd (List UInt32) := ⟨aW, fun k _ => kH k, fun _ l => [ow e l], fun _ => True, fun hp h hv => by
 obtain ⟨p, s, o⟩ := aW_ok hp h hv e
 exact ⟨True.intro, Rd.p1 rfl s o⟩⟩
abbrev rI : Rd Int := ⟨fun _ => aI, fun _ n => kI n, fun _ _ => [], fun _ => True, fun _ h hv => ⟨True.intro, [], fun _ => ⟨rfl, rfl⟩, fun _ _ _ => ⟨F2.nil, aI_ok h hv⟩⟩⟩
abbrev rU8 : Rd UInt8 := ⟨fun _ => aU8, fun _ n => kU n, fun _ _ => [], fun _ => True, fun _ h hv => ⟨True.intro, [], fun _ => ⟨rfl, rfl⟩, fun _ _ _ => ⟨F2.nil, aU8_ok h hv⟩⟩⟩
abbrev rU32 : Rd UInt32 := ⟨fun _ => aU32, fun _ n => kX n, fun _ _ => [], fun _ => True, fun _ h hv => ⟨True.intro, [], fun _ => ⟨rfl, rfl⟩, fun _ _ _ => ⟨F2.nil, aU32_ok h hv⟩⟩⟩
abbrev rS : Rd (List UInt8) := ⟨fun _ => aS, fun _ n => kT n, fun _ _ => [], fun _ => True, fun _ h hv => ⟨True.intro, [], fun _ => ⟨rfl, rfl⟩, fun _ _ _ => ⟨F2.nil, aS_ok h hv⟩⟩⟩
def castD (x y : Dsh) (l : List y.T) : Option (List x.T) := if h : y = x then some (h ▸ l) else none
def aD0 (x : Dsh) (H : Hp) : AV → Option (List x.T)
 | .c .nils => some []
 | .c (.wh i) => (match H[i]? with | some o => (match o.kd, o.cs with | .dp, .d y l => castD x y l | _, _ => none) | none => none)
 | .c (.sl i lo n) => (match H[i]? with | some o => (match o.kd, o.cs with | .dp, .d y l => castD x y ((l.drop lo).take n) | _, _ => none) | none => none)
 | .c (.dv i p) => (match dvD H i p with | some ⟨.sl _ y, t⟩ => castD x y t | _ => none)
 | _ => none
theorem DR.map {w : World} {F : Nat → Prop} {gv gv' : Way → Value} : ∀ (x : Dsh) (t : x.T) (c c' : Nat → Way) (f : Nat), (∀ q g, f ≤ g → g < f + x.sz → gv' (q ++ c' g) = gv (q ++ c g)) → DR w F gv x t c f → DR w F gv' x t c' f
 | .u8, t, c, c', f, hg, h => (hg [] f (Nat.le_refl _) (Nat.lt_succ_self f)).trans h
 | .u32, t, c, c', f, hg, h => (hg [] f (Nat.le_refl _) (Nat.lt_succ_self f)).trans h
 | .i64, t, c, c', f, hg, h => (hg [] f (Nat.le_refl _) (Nat.lt_succ_self f)).trans h
 | .by _, t, c, c', f, hg, h => by
  obtain ⟨A, cap, h1, h2⟩ := h
  exact ⟨A, cap, (hg [] f (Nat.le_refl _) (Nat.lt_succ_self f)).trans h1, h2⟩
 | .wo _, t, c, c', f, hg, h => by
  obtain ⟨A, cap, h1, h2⟩ := h
  exact ⟨A, cap, (hg [] f (Nat.le_refl _) (Nat.lt_succ_self f)).trans h1, h2⟩
 | .sl _ x, t, c, c', f, hg, h => by
  obtain ⟨A, cap, h1, h2, h3, h4, h5, h6⟩ := h
  refine ⟨A, cap, (hg [] f (Nat.le_refl _) (Nat.lt_succ_self f)).trans h1, h2, h3, h4, h5, fun k y hy => ⟨fun ad ha g hgl => ?_, ?_⟩⟩
  ·rw [(h6 k y hy).1 ad ha g hgl]
   exact congrArg some (hg [(k, g)] f (Nat.le_refl _) (Nat.lt_succ_self f)).symm
  ·refine DR.map x y _ _ 0 (fun q g _ _ => ?_) (h6 k y hy).2
   have := hg (q ++ [(k, g)]) f (Nat.le_refl _) (Nat.lt_succ_self f)
   simpa using this
 | .pr a b, t, c, c', f, hg, h => ⟨DR.map a t.1 c c' f (fun q g h1 h2 => hg q g h1 (by show g < f + (a.sz + b.sz); omega)) h.1, DR.map b t.2 c c' _ (fun q g h1 h2 => hg q g (by omega) (by show g < f + (a.sz + b.sz); omega)) h.2⟩
theorem DR.shift {w : World} {F : Nat → Prop} {gv : Way → Value} : ∀ (x : Dsh) (t : x.T) (c : Nat → Way) (f s : Nat), DR w F gv x t c f → DR w F gv x t (fun g => c (g - s)) (f + s)
 | .u8, t, c, f, s, h => by show gv (c (f + s - s)) = _; rw [Nat.add_sub_cancel]; exact h
 | .u32, t, c, f, s, h => by show gv (c (f + s - s)) = _; rw [Nat.add_sub_cancel]; exact h
 | .i64, t, c, f, s, h => by show gv (c (f + s - s)) = _; rw [Nat.add_sub_cancel]; exact h
 | .by _, t, c, f, s, h => by
  have e : c (f + s - s) = c f := by rw [Nat.add_sub_cancel]
  obtain ⟨A, cap, h1, h2⟩ := h
  exact ⟨A, cap, (congrArg gv e).trans h1, h2⟩
 | .wo _, t, c, f, s, h => by
  have e : c (f + s - s) = c f := by rw [Nat.add_sub_cancel]
  obtain ⟨A, cap, h1, h2⟩ := h
  exact ⟨A, cap, (congrArg gv e).trans h1, h2⟩
 | .sl _ x, t, c, f, s, h => by
  have e : c (f + s - s) = c f := by rw [Nat.add_sub_cancel]
  obtain ⟨A, cap, h1, h2, h3, h4, h5, h6⟩ := h
  refine ⟨A, cap, (congrArg gv e).trans h1, h2, h3, h4, h5, fun k y hy => ⟨fun ad ha g hg => ((h6 k y hy).1 ad ha g hg).trans ?_, ?_⟩⟩
  ·show _ = some (gv ((k, g) :: c (f + s - s)))
   rw [e]
  ·show DR w F gv x y (fun g => (k, g) :: c (f + s - s)) 0
   rw [e]; exact (h6 k y hy).2
 | .pr a b, t, c, f, s, h => ⟨DR.shift a t.1 c f s h.1, by have := DR.shift b t.2 c (f + a.sz) s h.2; rwa [show f + a.sz + s = f + s + a.sz by omega] at this⟩
theorem DR.foot {w : World} {F F' : Nat → Prop} {gv : Way → Value} (hF : ∀ g, F g → F' g) : ∀ (x : Dsh) (t : x.T) (c : Nat → Way) (f : Nat), DR w F gv x t c f → DR w F' gv x t c f
 | .u8, _, _, _, h => h
 | .u32, _, _, _, h => h
 | .i64, _, _, _, h => h
 | .by _, t, c, f, h => by
  obtain ⟨A, cap, h1, h2, h3, h4, h5, h6⟩ := h
  exact ⟨A, cap, h1, h2, h3, h4, fun ad ha hl => hF _ (h5 ad ha hl), h6⟩
 | .wo _, t, c, f, h => by
  obtain ⟨A, cap, h1, h2, h3, h4, h5, h6⟩ := h
  exact ⟨A, cap, h1, h2, h3, h4, fun ad ha hl => hF _ (h5 ad ha hl), h6⟩
 | .sl _ x, t, c, f, h => by
  obtain ⟨A, cap, h1, h2, h3, h4, h5, h6⟩ := h
  exact ⟨A, cap, h1, h2, h3, h4, fun ad ha hl => hF _ (h5 ad ha hl), fun k y hy => ⟨(h6 k y hy).1, DR.foot hF x y _ 0 (h6 k y hy).2⟩⟩
 | .pr a b, t, c, f, h => ⟨DR.foot hF a t.1 c f h.1, DR.foot hF b t.2 c _ h.2⟩
theorem castD_ok {x y : Dsh} {l : List y.T} {l' : List x.T} (h : castD x y l = some l') : ∃ e : y = x, e ▸ l = l' := by
 unfold castD at h
 split at h
 ·rename_i e; injection h with h; exact ⟨e, h⟩
 ·cases h
theorem aD0_ok {ρ : Pls} {w : World} {x : Dsh} {H : Hp} (hp : HpR ρ w H) {y : AV} {l : List x.T} (h : aD0 x H y = some l) {v : Value} (hv : avR ρ y v) (e : TypeId) :
  ∃ p : Pl, v = .slice p.A p.n p.cap ∧ ∀ ρ', objR ρ' w p ⟨.dp, e, x.sz, l.length, .d x l⟩ := by
 have dp : ∀ {i : Nat} {o : Oj} {l : List x.T}, H[i]? = some o → o.kd = .dp → o.cs = .d x l → ((ρ i).sz = x.sz ∧ (ρ i).n = l.length) ∧ (ρ i).gv [] = .slice (ρ i).A (ρ i).n (ρ i).cap ∧ (∀ g, (ρ i).foot g → g < w.heap.size) ∧ DR w (ρ i).foot (ρ i).gv (.sl e x) l (fun _ => []) 0 := by
  intro i o l ho hk hc
  have hr := hp i o ho
  unfold objR at hr
  simp only [hk] at hr
  unfold DpR at hr
  split at hr
  ·rename_i x' l' hc'
   rw [hc] at hc'
   cases hc'
   exact ⟨⟨hr.1.1.trans hr.1.2.2.2, hr.1.2.1.trans hr.1.2.2.1⟩, hr.2⟩
  ·exact hr.elim
 unfold aD0 at h
 split at h
 ·injection h with h; subst h
  exact ⟨⟨none, 0, 0, x.sz, fun _ => False, fun _ => .slice none 0 0⟩, hv, fun ρ' => ⟨⟨rfl, rfl, rfl, rfl⟩, rfl, fun g hg => hg.elim, none, 0, rfl, Nat.le_refl _, by simp [maxLen], fun _ => rfl, fun ad ha _ => (nomatch ha), fun k y hy => (nomatch hy)⟩⟩
 ·rename_i i
  split at h
  ·rename_i o ho
   split at h
   ·rename_i y l0 hk hc
    obtain ⟨rfl, rfl⟩ := castD_ok h
    obtain ⟨⟨h1, h2⟩, h3⟩ := dp ho hk hc
    exact ⟨ρ i, hv, fun ρ' => ⟨⟨h1, h2, rfl, rfl⟩, h3⟩⟩
   ·cases h
  ·cases h
 ·rename_i i lo n
  split at h
  ·rename_i o ho
   split at h
   ·rename_i y l0 hk hc
    obtain ⟨rfl, rfl⟩ := castD_ok h
    obtain ⟨⟨h1, h2⟩, h3, h4, A0, cap0, h5, h6, h7, h8, h9, h10⟩ := dp ho hk hc
    obtain ⟨g0, A, c, rfl, g1, g2, g3, g4⟩ := hv
    have hlen : ((l0.drop lo).take n).length = n := by rw [List.length_take, List.length_drop]; omega
    rw [h3] at h5
    injection h5 with a1 a2 a3
    rw [h1] at g4
    let gv' : Way → Value := fun q => match q.getLast? with | none => .slice A n c | some (k, g) => (ρ i).gv (q.dropLast ++ [(k + lo, g)])
    have hgv : ∀ (q : Way) (k g : Nat), gv' (q ++ [(k, g)]) = (ρ i).gv (q ++ [(k + lo, g)]) := fun q k g => by
     show (match (q ++ [(k, g)]).getLast? with | none => _ | some (k, g) => _) = _
     rw [List.getLast?_append, List.dropLast_concat]; rfl
    refine ⟨⟨A, n, c, y.sz, (ρ i).foot, gv'⟩, rfl, fun ρ' => ⟨⟨rfl, hlen.symm, rfl, rfl⟩, rfl, h4, A, c, ?_, by rw [hlen]; exact g1, g2, g3, fun ad ha hl => ?_, fun k z hz => ⟨fun ad ha g hg => ?_, ?_⟩⟩⟩
    ·show Value.slice A n c = _
     rw [hlen]
    ·have hn : 0 < n := by rw [hlen] at hl; exact hl
     have e1 := g4 hn
     rw [ha] at e1
     cases hA : (ρ i).A with
     | none => rw [hA] at e1; cases e1
     | some ad0 =>
      rw [hA] at e1
      injection e1 with e1; subst e1
      rw [block_add]
      exact h9 ad0 (a1 ▸ hA) (by omega)
    ·have hk2 : k < n := by rw [← hlen]; exact (List.getElem?_eq_some_iff.1 hz).1
     have hz' : gq (α := y.T) l0 (k + lo) = some z := by
      have : ((l0.drop lo).take n)[k]? = some z := hz
      rw [List.getElem?_take, if_pos hk2, List.getElem?_drop, Nat.add_comm] at this
      exact this
     have e1 := g4 (by omega)
     rw [ha] at e1
     cases hA : (ρ i).A with
     | none => rw [hA] at e1; cases e1
     | some ad0 =>
      rw [hA] at e1
      injection e1 with e1; subst e1
      have := (h10 (k + lo) z hz').1 ad0 (a1 ▸ hA) g hg
      rw [add_add, ← Nat.add_assoc, ← Nat.add_mul, Nat.add_comm lo k, this]
      exact congrArg some (hgv [] k g).symm
    ·have hk2 : k < n := by rw [← hlen]; exact (List.getElem?_eq_some_iff.1 hz).1
     have hz' : gq (α := y.T) l0 (k + lo) = some z := by
      have : ((l0.drop lo).take n)[k]? = some z := hz
      rw [List.getElem?_take, if_pos hk2, List.getElem?_drop, Nat.add_comm] at this
      exact this
     exact DR.map y z _ _ 0 (fun q g _ _ => hgv q k g) (h10 (k + lo) z hz').2
   ·cases h
  ·cases h
 ·rename_i i p
  split at h
  ·rename_i e' y t hd
   obtain ⟨rfl, rfl⟩ := castD_ok h
   obtain ⟨c, f, hc, hr⟩ := dvD_ok hp hd hv.2.1
   have hr2 : DR w (ρ i).foot (ρ i).gv (.sl e y) t (fun _ => c f) 0 := hr
   rw [hc] at hr2
   obtain ⟨A, cap, h1, h2, h3, h4, h5, h6⟩ := hr
   refine ⟨⟨A, List.length (α := y.T) t, cap, y.sz, (ρ i).foot, fun q => (ρ i).gv (q ++ p)⟩, by rw [hv.1, ← hc]; exact h1, fun ρ' => ⟨⟨rfl, rfl, rfl, rfl⟩, by show (ρ i).gv ([] ++ p) = _; rw [List.nil_append, ← hc]; exact h1, ?_, DR.map (.sl e y) t (fun _ => p) (fun _ => []) 0 (fun q _ _ _ => by rw [List.append_nil]) hr2⟩⟩
   unfold dvD at hd
   split at hd
   ·cases hd
   ·rename_i o ho
    split at hd
    ·rename_i x' l' hk hcs
     have ho' := hp i o ho
     unfold objR at ho'
     simp only [hk] at ho'
     unfold DpR at ho'
     rw [hcs] at ho'
     exact ho'.2.2.1
    ·cases hd
  ·cases h
 ·cases h
def chunks {α : Type} (f : List Cl → Option α) (m : Nat) : Nat → List Cl → Option (List α)
 | 0, [] => some []
 | 0, _ :: _ => none
 | n + 1, l => match f (l.take m), chunks f m n (l.drop m) with | some a, some r => some (a :: r) | _, _ => none
def rowCl (H : Hp) (sz : Nat) : Cl → Option (Nat × List Cl)
 | .wh i => (match liveR H i with | some o => (match Nat.beq o.sz sz, o.cs with | true, .c l => some (o.n, l) | _, _ => none) | none => none)
 | _ => none
def dU8 (l : List Cl) : Option UInt8 := match l with | [.s (.u8 n)] => some n | _ => none
def dU32 (l : List Cl) : Option UInt32 := match l with | [.s (.u32 n)] => some n | _ => none
def dI64 (l : List Cl) : Option Int := match l with | [.s (.k .i64 n)] => some n | _ => none
def dBy (H : Hp) (l : List Cl) : Option (List UInt8) := match l with | [c] => viewB H c | _ => none
def dWo (H : Hp) (l : List Cl) : Option (List UInt32) := match l with | [c] => viewW H c | _ => none
def dSl (H : Hp) (x : Dsh) (f : List Cl → Option x.T) (l : List Cl) : Option (List x.T) := match l with | [c] => (match aD0 x H (.c c) with | some r => some r | none => (match rowCl H x.sz c with | some (n, cs) => chunks f x.sz n cs | none => none)) | _ => none
def dPr {α β : Type} (f : List Cl → Option α) (g : List Cl → Option β) (m : Nat) (l : List Cl) : Option (α × β) := match f (l.take m), g (l.drop m) with | some y, some z => some (y, z) | _, _ => none
def dcs (H : Hp) : (x : Dsh) → List Cl → Option x.T
 | .u8 => dU8
 | .u32 => dU32
 | .i64 => dI64
 | .by _ => dBy H
 | .wo _ => dWo H
 | .sl _ x => dSl H x (dcs H x)
 | .pr a b => dPr (dcs H a) (dcs H b) a.sz
def aD (x : Dsh) (H : Hp) : AV → Option (List x.T)
 | .c c => dcs H (.sl 0 x) [c]
 | _ => none
theorem chunks_ok {α : Type} {f : List Cl → Option α} {m : Nat} (R : List Cl → α → Prop) : ∀ {n : Nat} {l : List Cl} {r : List α}, chunks f m n l = some r → r.length = n ∧ ∀ k y, gq r k = some y → f ((l.drop (k * m)).take m) = some y
 | 0, [], r, h => by injection h with h; subst h; exact ⟨rfl, fun k y hy => nomatch hy⟩
 | 0, _ :: _, r, h => nomatch h
 | n + 1, l, r, h => by
  simp only [chunks] at h
  split at h
  ·rename_i a r' h1 h2
   injection h with h; subst h
   obtain ⟨h3, h4⟩ := chunks_ok R h2
   refine ⟨by simp [h3], fun k y hy => ?_⟩
   cases k with
   | zero => simp only [gq, List.getElem?_cons_zero, Option.some.injEq] at hy; subst hy; simpa using h1
   | succ k =>
    have := h4 k y (by simpa [gq] using hy)
    rw [List.drop_drop] at this
    rwa [Nat.succ_mul, Nat.add_comm]
  ·cases h
theorem DR.retype {w : World} {F : Nat → Prop} {gv : Way → Value} {e e' : TypeId} {x : Dsh} {l : List x.T} {c : Nat → Way} {f : Nat} (h : DR w F gv (.sl e x) l c f) : DR w F gv (.sl e' x) l c f := h
theorem DR.mk {w : World} {x : Dsh} {l : List x.T} {A : Option Addr} {cap : Nat} (e : TypeId) (h1 : l.length ≤ cap) (h2 : cap ≤ maxLen) (h3 : A = none → cap = 0)
  (vs : List Value) (hA : At w A vs) (hl : vs.length = l.length * x.sz)
  (he : ∀ k y, gq l k = some y → ∃ (F : Nat → Prop) (gv : Way → Value), (∀ g, g < x.sz → some (gv [(0, g)]) = vs[k * x.sz + g]?) ∧ (∀ g, F g → g < w.heap.size) ∧ DR w F gv x y (fun g => [(0, g)]) 0) :
  ∃ (F : Nat → Prop) (gv : Way → Value), gv [] = .slice A l.length cap ∧ (∀ g, F g → g < w.heap.size) ∧ DR w F gv (.sl e x) l (fun _ => []) 0 := by
 have he' : ∀ k, ∃ p : (Nat → Prop) × (Way → Value), ∀ y, gq l k = some y → (∀ g, g < x.sz → some (p.2 [(0, g)]) = vs[k * x.sz + g]?) ∧ (∀ g, p.1 g → g < w.heap.size) ∧ DR w p.1 p.2 x y (fun g => [(0, g)]) 0 := by
  intro k
  cases hk : gq l k with
  | none => exact ⟨⟨fun _ => False, fun _ => undef⟩, fun y hy => nomatch hy⟩
  | some y =>
   obtain ⟨F, gv, h⟩ := he k y hk
   exact ⟨⟨F, gv⟩, fun z hz => by injection hz with hz; subst hz; exact h⟩
 obtain ⟨pf, hpf⟩ := Classical.axiomOfChoice he'
 let gv : Way → Value := fun q => match q.getLast? with | none => .slice A l.length cap | some (k, g) => (pf k).2 (q.dropLast ++ [(0, g)])
 have hgv : ∀ (q : Way) (k g : Nat), gv (q ++ [(k, g)]) = (pf k).2 (q ++ [(0, g)]) := fun q k g => by
  show (match (q ++ [(k, g)]).getLast? with | none => _ | some (k, g) => _) = _
  rw [List.getLast?_append, List.dropLast_concat]; rfl
 have hsz := x.sz_pos
 have pos : ∀ {k : Nat} {y : x.T}, gq l k = some y → k < l.length := fun hy => (List.getElem?_eq_some_iff.1 hy).1
 refine ⟨fun g => (0 < l.length ∧ ∃ ad, A = some ad ∧ ad.block = g) ∨ ∃ k, k < l.length ∧ (pf k).1 g, gv, rfl, ?_, A, cap, rfl, h1, h2, h3, fun ad ha hl0 => .inl ⟨hl0, ad, ha, rfl⟩, fun k y hy => ⟨fun ad ha g hg => ?_, ?_⟩⟩
 ·rintro g (⟨h0, ad, ha, rfl⟩ | ⟨k, hk, hg⟩)
  ·have hv0 : 0 < vs.length := by rw [hl]; exact Nat.mul_pos h0 hsz
   have := World.block_lt_of_cell? _ _ (hA ad ha 0 vs[0] (List.getElem?_eq_getElem hv0))
   rwa [block_add] at this
  ·obtain ⟨y, hy⟩ : ∃ y, gq l k = some y := ⟨l[k], List.getElem?_eq_getElem hk⟩
   exact (hpf k y hy).2.1 g hg
 ·have h5 := (hpf k y hy).1 g hg
  rw [hA ad ha (k * x.sz + g) _ h5.symm]
  exact congrArg some (hgv [] k g).symm
 ·exact DR.map x y _ _ 0 (fun q g _ _ => hgv q k g) (DR.foot (fun g hg => .inr ⟨k, pos hy, hg⟩) x y _ 0 (hpf k y hy).2.2)
def RdE (w : World) (x : Dsh) (vs : List Value) (t : x.T) : Prop := ∃ (F : Nat → Prop) (gv : Way → Value), (∀ g, g < x.sz → some (gv [(0, g)]) = vs[g]?) ∧ (∀ g, F g → g < w.heap.size) ∧ DR w F gv x t (fun g => [(0, g)]) 0
def RdsOk (ρ : Pls) (w : World) (x : Dsh) (f : List Cl → Option x.T) : Prop := ∀ (cs : List Cl) (t : x.T), f cs = some t → ∀ (vs : List Value), F2 (clR ρ) cs vs → RdE w x vs t
theorem RdE.pr {w : World} {a b : Dsh} {vs : List Value} {y : a.T} {z : b.T} (ha : RdE w a (vs.take a.sz) y) (hb : RdE w b (vs.drop a.sz) z) : RdE w (.pr a b) vs (y, z) := by
 obtain ⟨Fa, ga, a1, a2, a3⟩ := ha
 obtain ⟨Fb, gb, b1, b2, b3⟩ := hb
 let gv : Way → Value := fun q => match q.getLast? with | none => undef | some (_, g) => if g < a.sz then ga q else gb (q.dropLast ++ [(0, g - a.sz)])
 have hgv : ∀ (q : Way) (g : Nat), gv (q ++ [(0, g)]) = if g < a.sz then ga (q ++ [(0, g)]) else gb (q ++ [(0, g - a.sz)]) := fun q g => by
  show (match (q ++ [(0, g)]).getLast? with | none => _ | some (_, g) => _) = _
  rw [List.getLast?_append, List.dropLast_concat]; rfl
 refine ⟨fun g => Fa g ∨ Fb g, gv, fun g hg => ?_, fun g hg => hg.elim (a2 g) (b2 g), DR.map a y _ _ 0 (fun q g _ hg => ?_) (DR.foot (fun _ => .inl) a y _ 0 a3), ?_⟩
 ·have := hgv [] g
  rw [List.nil_append] at this
  rw [this]
  have hg' : g < a.sz + b.sz := hg
  split
  ·rename_i hlt
   rw [a1 g hlt, List.getElem?_take, if_pos hlt]
  ·rename_i hlt
   rw [List.nil_append, b1 (g - a.sz) (by omega), List.getElem?_drop]
   congr 1; omega
 ·rw [hgv, if_pos (by omega)]
 ·have := DR.shift b z _ 0 a.sz (DR.foot (F' := fun g => Fa g ∨ Fb g) (fun _ => .inr) b z _ 0 b3)
  refine DR.map b z _ _ _ (fun q g h1 _ => ?_) this
  rw [hgv, if_neg (by omega)]
theorem RdE.sl0 {w : World} {x : Dsh} {l : List x.T} (e : TypeId) {v : Value} {F : Nat → Prop} {gv : Way → Value} (k1 : gv [] = v) (k2 : ∀ g, F g → g < w.heap.size) (k3 : DR w F gv (.sl e x) l (fun _ => []) 0) : RdE w (.sl e x) [v] l := by
 let gv' : Way → Value := fun q => gv q.dropLast
 have hg : ∀ (q : Way) (g : Nat), gv' (q ++ [(0, g)]) = gv q := fun q g => by show gv _ = _; rw [List.dropLast_concat]
 refine ⟨F, gv', fun g hgl => ?_, k2, DR.map (.sl e x) l (fun _ => []) _ 0 (fun q g _ _ => by rw [hg, List.append_nil]) k3⟩
 rw [show g = 0 from Nat.lt_one_iff.1 hgl]
 exact congrArg some ((hg [] 0).trans k1)
theorem RdE.root {w : World} {x : Dsh} {l : List x.T} {e : TypeId} {v : Value} (h : RdE w (.sl e x) [v] l) (e' : TypeId) : ∃ p : Pl, v = .slice p.A p.n p.cap ∧ ∀ ρ', objR ρ' w p ⟨.dp, e', x.sz, l.length, .d x l⟩ := by
 obtain ⟨F, gv, h1, h2, h3⟩ := h
 have h4 := DR.map (.sl e' x) l (fun g => [(0, g)]) (fun _ => []) 0 (gv' := fun q => gv (q ++ [(0, 0)])) (fun q g _ hg => by rw [show g = 0 from Nat.lt_one_iff.1 (by simpa [Dsh.sz] using hg), List.append_nil]) h3.retype
 obtain ⟨A, cap, k1, k2⟩ := h4
 have e1 := h1 0 Nat.one_pos
 have hv' : v = .slice A l.length cap := by
  simp only [List.getElem?_cons_zero, Option.some.injEq] at e1
  rw [← e1]; exact k1
 exact ⟨⟨A, l.length, cap, x.sz, F, fun q => gv (q ++ [(0, 0)])⟩, hv', fun ρ' => ⟨⟨rfl, rfl, rfl, rfl⟩, k1, h2, A, cap, k1, k2⟩⟩
theorem RdE.by {w : World} {B : Nat} {v : Value} {t : List UInt8} (e : TypeId) (h : Sl w B v (t.map bU)) : RdE w (.by e) [v] t := by
 obtain ⟨_, A, c, rfl, k1, k2, k3, k4⟩ := h
 have hB : ∀ g, g < B → g < w.heap.size ∨ True := fun _ _ => .inr True.intro
 rw [List.length_map] at k1 ⊢
 exact ⟨fun g => ∃ ad, A = some ad ∧ 0 < t.length ∧ ad.block = g, fun _ => .slice A t.length c, fun g hg => by rw [show g = 0 from Nat.lt_one_iff.1 hg]; rfl,
  fun g ⟨ad, ha, hl, hg⟩ => by rw [← hg]; have := World.block_lt_of_cell? _ _ (k4 ad ha 0 (bU t[0]) (by rw [List.getElem?_map, List.getElem?_eq_getElem hl]; rfl)).2; rwa [block_add] at this,
  A, c, rfl, k1, k2, k3, fun ad ha hl => ⟨ad, ha, hl, rfl⟩, fun ad ha j u hu => (k4 ad ha j u hu).2⟩
theorem RdE.wo {w : World} {B : Nat} {v : Value} {t : List UInt32} (e : TypeId) (h : Sl w B v (t.map w32)) : RdE w (.wo e) [v] t := by
 obtain ⟨_, A, c, rfl, k1, k2, k3, k4⟩ := h
 rw [List.length_map] at k1 ⊢
 exact ⟨fun g => ∃ ad, A = some ad ∧ 0 < t.length ∧ ad.block = g, fun _ => .slice A t.length c, fun g hg => by rw [show g = 0 from Nat.lt_one_iff.1 hg]; rfl,
  fun g ⟨ad, ha, hl, hg⟩ => by rw [← hg]; have := World.block_lt_of_cell? _ _ (k4 ad ha 0 (w32 t[0]) (by rw [List.getElem?_map, List.getElem?_eq_getElem hl]; rfl)).2; rwa [block_add] at this,
  A, c, rfl, k1, k2, k3, fun ad ha hl => ⟨ad, ha, hl, rfl⟩, fun ad ha j u hu => (k4 ad ha j u hu).2⟩
theorem RdE.s1 {w : World} {x : Dsh} {v : Value} {t : x.T} (h : ∀ gv : Way → Value, (∀ q, gv q = v) → DR w (fun _ => False) gv x t (fun g => [(0, g)]) 0) (hx : x.sz = 1) : RdE w x [v] t :=
 ⟨fun _ => False, fun _ => v, fun g hg => by rw [show g = 0 from Nat.lt_one_iff.1 (hx ▸ hg)]; rfl, fun g hg => hg.elim, h _ fun _ => rfl⟩
section
variable {ρ : Pls} {w : World} {H : Hp}
theorem one0 {v : Value} : ∀ g, g < 1 → some v = [v][g]? := fun g hg => by rw [show g = 0 from Nat.lt_one_iff.1 hg]; rfl
theorem dU8_ok : RdsOk ρ w .u8 dU8 := fun cs t h vs hv => by
 unfold dU8 at h
 split at h
 ·injection h with h; subst h
  obtain ⟨v, vs, rfl, h1, h2⟩ := hv.uncons
  obtain rfl := h2.unnil
  exact ⟨fun _ => False, fun _ => v, one0, fun g hg => hg.elim, h1⟩
 ·cases h
theorem dU32_ok : RdsOk ρ w .u32 dU32 := fun cs t h vs hv => by
 unfold dU32 at h
 split at h
 ·injection h with h; subst h
  obtain ⟨v, vs, rfl, h1, h2⟩ := hv.uncons
  obtain rfl := h2.unnil
  exact ⟨fun _ => False, fun _ => v, one0, fun g hg => hg.elim, h1⟩
 ·cases h
theorem dI64_ok : RdsOk ρ w .i64 dI64 := fun cs t h vs hv => by
 unfold dI64 at h
 split at h
 ·injection h with h; subst h
  obtain ⟨v, vs, rfl, h1, h2⟩ := hv.uncons
  obtain rfl := h2.unnil
  exact ⟨fun _ => False, fun _ => v, one0, fun g hg => hg.elim, h1⟩
 ·cases h
theorem dBy_ok (hp : HpR ρ w H) (e : TypeId) : RdsOk ρ w (.by e) (dBy H) := fun cs (t : List UInt8) h vs hv => by
 unfold dBy at h
 split at h
 ·obtain ⟨v, vs, rfl, h1, h2⟩ := hv.uncons
  obtain rfl := h2.unnil
  exact RdE.by e (viewB_ok hp h h1)
 ·cases h
theorem dWo_ok (hp : HpR ρ w H) (e : TypeId) : RdsOk ρ w (.wo e) (dWo H) := fun cs (t : List UInt32) h vs hv => by
 unfold dWo at h
 split at h
 ·rename_i c0
  obtain ⟨v, vs, rfl, h1, h2⟩ := hv.uncons
  obtain rfl := h2.unnil
  obtain ⟨p, hI⟩ := aW_ok hp (x := .c c0) h h1 e
  exact RdE.wo e (hI.sl (fun _ _ h => csR_w.1 h) (by simp))
 ·cases h
theorem dPr_ok {a b : Dsh} {f : List Cl → Option a.T} {f' : List Cl → Option b.T} (ha : RdsOk ρ w a f) (hb : RdsOk ρ w b f') : RdsOk ρ w (.pr a b) (dPr f f' a.sz) := fun cs (t : a.T × b.T) h vs hv => by
 unfold dPr at h
 split at h
 ·rename_i y z h1 h2
  injection h with h; subst h
  exact RdE.pr (ha _ y h1 _ (hv.take _)) (hb _ z h2 _ (hv.drop _))
 ·cases h
theorem rowCl_ok (hp : HpR ρ w H) {x : Dsh} {c : Cl} {n : Nat} {cl : List Cl} (h : rowCl H x.sz c = some (n, cl)) {v : Value} (hv : clR ρ c v) :
  ∃ A cap vs, v = .slice A n cap ∧ n ≤ cap ∧ cap ≤ maxLen ∧ (A = none → cap = 0) ∧ F2 (clR ρ) cl vs ∧ At w A vs ∧ vs.length = n * x.sz := by
 unfold rowCl at h
 split at h
 ·rename_i i
  split at h
  ·rename_i o hl
   split at h
   ·rename_i hsz hc
    injection h with h; simp only [Prod.mk.injEq] at h; obtain ⟨rfl, rfl⟩ := h
    obtain ⟨hlS, hi, hkd⟩ := liveR_ok hl
    have hkd' : (∃ b, o.kd = .ro b) ∨ o.kd = .row ∨ o.kd = .dp := hkd.elim .inl (fun h => .inr (.inl h))
    obtain ⟨⟨e1, e2, e3⟩, vs, hcs, hAt⟩ := (hp i o hi).read (nd hkd')
    obtain ⟨s1, s2, s3⟩ := (hp i o hi).slc hkd'
    have hosz : o.sz = x.sz := Nat.eq_of_beq_eq_true hsz
    refine ⟨_, _, vs, by rw [show v = _ from hv, e2], by rw [← e2]; exact s1, s2, s3, by rw [hc] at hcs; exact hcs, hAt, by rw [hcs.len, e3, hosz]⟩
   ·cases h
  ·cases h
 ·cases h
theorem dSl_ok (hp : HpR ρ w H) (e : TypeId) {x : Dsh} {f : List Cl → Option x.T} (hx : RdsOk ρ w x f) : RdsOk ρ w (.sl e x) (dSl H x f) := fun cs (t : List x.T) h vs hv => by
 unfold dSl at h
 split at h
 ·rename_i c0
  obtain ⟨v, vs, rfl, h1, h2⟩ := hv.uncons
  obtain rfl := h2.unnil
  have key : ∃ (F : Nat → Prop) (gv : Way → Value), gv [] = v ∧ (∀ g, F g → g < w.heap.size) ∧ DR w F gv (.sl e x) t (fun _ => []) 0 := by
   split at h
   ·rename_i r hr
    injection h with h; subst h
    obtain ⟨p, rfl, hpo⟩ := aD0_ok hp hr h1 e
    obtain ⟨k1, k2, k3, k4⟩ := hpo ρ
    exact ⟨p.foot, p.gv, k2, k3, k4⟩
   ·split at h
    ·rename_i n cl hrow
     obtain ⟨A, cap, vs, rfl, s1, s2, s3, hcs', hAt, hvl⟩ := rowCl_ok hp hrow h1
     obtain ⟨c1, c2⟩ := chunks_ok (fun _ _ => True) h
     subst c1
     exact DR.mk (w := w) (l := t) (A := A) (cap := cap) e s1 s2 s3 vs hAt hvl (fun k y hy => by
      obtain ⟨F, gv, d1, d2, d3⟩ := hx _ y (c2 k y hy) _ ((hcs'.drop (k * x.sz)).take x.sz)
      refine ⟨F, gv, fun g hg => ?_, d2, d3⟩
      rw [d1 g hg, List.getElem?_take, if_pos hg, List.getElem?_drop])
    ·cases h
  obtain ⟨F, gv, k1, k2, k3⟩ := key
  exact RdE.sl0 e k1 k2 k3
 ·cases h
theorem dcs_ok (hp : HpR ρ w H) : ∀ (x : Dsh), RdsOk ρ w x (dcs H x)
 | .u8 => dU8_ok
 | .u32 => dU32_ok
 | .i64 => dI64_ok
 | .by e => dBy_ok hp e
 | .wo e => dWo_ok hp e
 | .sl e x => dSl_ok hp e (dcs_ok hp x)
 | .pr a b => dPr_ok (dcs_ok hp a) (dcs_ok hp b)
end
theorem aD_ok {ρ : Pls} {w : World} {x : Dsh} {H : Hp} (hp : HpR ρ w H) {y : AV} {l : List x.T} (h : aD x H y = some l) {v : Value} (hv : avR ρ y v) (e : TypeId) :
  ∃ p : Pl, v = .slice p.A p.n p.cap ∧ ∀ ρ', objR ρ' w p ⟨.dp, e, x.sz, l.length, .d x l⟩ := by
 cases y with
 | c c =>
  have hc : dcs H (.sl 0 x) [c] = some l := h
  exact (dcs_ok hp (.sl 0 x) [c] l hc [v] (F2.cons hv F2.nil)).root e
 | _ => cases h
abbrev rD (e : TypeId) (x : Dsh) : Rd (List x.T) := ⟨aD x, fun k _ => kH k, fun _ l => [⟨.dp, e, x.sz, l.length, .d x l⟩], fun _ => True, fun hp h hv => by
 obtain ⟨p, s, o⟩ := aD_ok hp h hv e
 exact ⟨True.intro, Rd.p1 rfl s o⟩⟩
structure RdC (α : Type) where
 r : Rd α
 cl : Nat → α → Cl
 eq : ∀ k a, r.op k a = .c (cl k a)
abbrev cB (e : TypeId) : RdC (List UInt8) := ⟨rB e, fun k _ => .wh k, fun _ _ => rfl⟩
abbrev cW (e : TypeId) : RdC (List UInt32) := ⟨rW e, fun k _ => .wh k, fun _ _ => rfl⟩
abbrev cU8 : RdC UInt8 := ⟨rU8, fun _ n => .s (.u8 n), fun _ _ => rfl⟩
abbrev cS : RdC (List UInt8) := ⟨rS, fun _ n => .s (.str n), fun _ _ => rfl⟩
abbrev lN : RdL Unit := ⟨0, fun _ x => match x with | [] => some () | _ => none, fun _ _ => [], fun _ _ => [], fun {ρ w H x a v} _ h hv => by
 cases x with
 | nil => exact ⟨[], fun _ => ⟨rfl, rfl⟩, fun _ _ _ => ⟨F2.nil, hv.1, fun j x y hx => by simp at hx⟩⟩
 | cons y ys => cases h⟩
theorem Pat.left {ps qs : List Pl} {k : Nat} {ρ' : Pls} (h : Pat (ps ++ qs) k ρ') : Pat ps k ρ' := fun j p hj => h j p (by rw [List.getElem?_append_left (List.getElem?_eq_some_iff.1 hj).1]; exact hj)
theorem Pat.right {ps qs : List Pl} {k m : Nat} {ρ' : Pls} (h : Pat (ps ++ qs) k ρ') (hm : m = ps.length) : Pat qs (k + m) ρ' := fun j p hj => by
 rw [Nat.add_assoc]
 exact h _ p (by rw [List.getElem?_append_right (by omega), hm, Nat.add_sub_cancel_left]; exact hj)
abbrev lC {α β : Type} (c : RdC α) (l : RdL β) : RdL (α × β) := ⟨l.n + 1, fun H x => match x with | y :: ys => (match c.r.rd H (.c y) with | some a => (match l.rd H ys with | some b => some (a, b) | none => none) | none => none) | [] => none,
 fun k p => c.cl k p.1 :: l.op (k + (c.r.os 0 p.1).length) p.2, fun k p => c.r.os k p.1 ++ l.os (k + (c.r.os 0 p.1).length) p.2, fun {ρ w H x a v} hp h hv => by
  cases x with
  | nil => cases h
  | cons y ys =>
   dsimp only at h
   split at h
   ·rename_i a1 h1
    split at h
    ·rename_i b1 h2
     injection h with h; subst h
     cases v with
     | nil => have := hv.1; simp at this
     | cons u us =>
      have hu : clR ρ y u := hv.2 0 y u rfl rfl
      have hus : F2 (clR ρ) ys us := ⟨by have := hv.1; simpa using this, fun j x y hx hy => hv.2 (j + 1) x y (by simpa using hx) (by simpa using hy)⟩
      obtain ⟨_, ps, g1, k1⟩ := c.r.ok hp h1 (show avR ρ (.c y) u from hu)
      obtain ⟨qs, g2, k2⟩ := l.ok hp h2 hus
      refine ⟨ps ++ qs, fun k => ⟨by simp [(g1 k).1, (g2 _).1], allRo_append (g1 k).2 (g2 _).2⟩, fun k ρ' hk => ?_⟩
      obtain ⟨e1, e2⟩ := k1 k ρ' (Pat.left hk)
      obtain ⟨e3, e4⟩ := k2 _ ρ' (Pat.right hk (g1 0).1)
      rw [c.eq] at e2
      exact ⟨F2.append e1 e3, F2.cons e2 e4⟩
    ·cases h
   ·cases h⟩
theorem aGc_inv {ρ : Pls} {n : Nat} {x : AV} {y : List Cl} (hy : aGc n x = some y) {v : Value} (hv : avR ρ x v) : ∃ vs : List Value, F2 (clR ρ) y vs ∧ vs.length = n ∧ v = .agg vs.toArray := by
 obtain ⟨vs, h1, rfl, h3⟩ := aGc_ok hy hv
 refine ⟨vs, ⟨?_, fun j x u hx hu => ?_⟩, h1, rfl⟩
 ·unfold aGc at hy
  split at hy
  ·split at hy
   ·rename_i hm
    simp only [Bool.and_eq_true] at hm
    injection hy with hy; subst hy
    rw [h1, ← Nat.eq_of_beq_eq_true hm.2]
   ·cases hy
  ·cases hy
 ·have := h3 j (by rw [← h1]; exact (List.getElem?_eq_some_iff.1 hu).1)
  rw [List.getD_eq_getElem?_getD, hx, List.getD_eq_getElem?_getD, hu] at this
  exact this
abbrev rSt {α : Type} (l : RdL α) : Rd α := ⟨fun H x => match aGc l.n x with | some y => l.rd H y | none => none, fun k a => .g l.n (.c (l.op k a)), l.os, fun _ => True, fun {ρ w H x a v} hp h hv => by
 split at h
 ·rename_i y hy
  obtain ⟨vs, h1, h2, rfl⟩ := aGc_inv hy hv
  obtain ⟨ps, g1, k1⟩ := l.ok hp h h1
  exact ⟨True.intro, ps, g1, fun k ρ' hk => ⟨(k1 k ρ' hk).1, vs, (k1 k ρ' hk).2, h2, rfl⟩⟩
 ·cases h⟩
def ptC (H : Hp) (n i : Nat) : Option (List Cl) := match H[i]? with
 | some o => (match o.kd, o.sz, Nat.beq o.n n && Nat.ble n 1000000, o.cs with
  | .blk, 1, true, .c l => some l
  | .ro _, 1, true, .c l => some l
  | _, _, _, _ => none)
 | none => none
theorem ptC_ok {ρ : Pls} {w : World} {H : Hp} (hp : HpR ρ w H) {n i : Nat} {l : List Cl} (h : ptC H n i = some l) : n ≤ 1000000 ∧ (ρ i).n * (ρ i).sz = n ∧ ∃ vs, F2 (clR ρ) l vs ∧ At w (ρ i).A vs ∧ vs.length = n := by
 unfold ptC at h
 split at h
 ·rename_i o ho
  have fin : o.kd ≠ .dead → o.sz = 1 → (Nat.beq o.n n && Nat.ble n 1000000) = true → o.cs = .c l → n ≤ 1000000 ∧ (ρ i).n * (ρ i).sz = n ∧ ∃ vs, F2 (clR ρ) l vs ∧ At w (ρ i).A vs ∧ vs.length = n := fun h1 h2 h3 h4 => by
   simp only [Bool.and_eq_true] at h3
   obtain ⟨⟨e1, e2, e3⟩, vs, hc, hA⟩ := (hp i o ho).read h1
   have hn := Nat.eq_of_beq_eq_true h3.1
   refine ⟨Nat.le_of_ble_eq_true h3.2, by rw [e1, e2, h2, hn, Nat.mul_one], vs, by rw [h4] at hc; exact hc, hA, by rw [hc.len, e3, h2, hn, Nat.mul_one]⟩
  split at h
  ·rename_i h1 h2 h3 h4; injection h with h; subst h; exact fin (by rw [h1]; simp) h2 h3 h4
  ·rename_i h1 h2 h3 h4; injection h with h; subst h; exact fin (by rw [h1]; simp) h2 h3 h4
  ·cases h
 ·cases h
theorem pt_obj {ρ' : Pls} {w : World} {e : TypeId} {n : Nat} {l : List Cl} {vs : List Value} {A : Option Addr} (h1 : F2 (clR ρ') l vs) (h2 : At w A vs) (h3 : vs.length = n) (h4 : n ≤ 1000000) (h5 : A ≠ none) : objR ρ' w (pl4 A n n 1) ⟨.ro false, e, 1, n, .c l⟩ :=
 ⟨⟨rfl, rfl, by show l.length = n * 1; rw [h1.1]; omega⟩, ⟨Nat.le_refl _, by show n ≤ maxLen; unfold maxLen; omega, fun h => absurd h h5⟩, vs, h1, h2⟩
abbrev rPt {α : Type} (e : TypeId) (l : RdL α) : Rd α := ⟨fun H x => match x with | .c (.pt i 0) => (match ptC H l.n i with | some y => l.rd H y | none => none) | _ => none,
 fun k a => .c (.pt (k + (l.os 0 a).length) 0), fun k a => l.os k a ++ [⟨.ro false, e, 1, l.n, .c (l.op k a)⟩], fun _ => True, fun {ρ w H x a v} hp h hv => by
 split at h
 ·rename_i i
  split at h
  ·rename_i y hy
   obtain ⟨g0, g1, vs, g2, g3, g4⟩ := ptC_ok hp hy
   obtain ⟨h0, ad, hA, rfl⟩ := hv
   obtain ⟨ps, k1, k2⟩ := l.ok hp h g2
   rw [hA] at g3
   refine ⟨True.intro, ps ++ [pl4 (some ad) l.n l.n 1], fun k => ⟨by simp [(k1 k).1], allRo_append (k1 k).2 rfl⟩, fun k ρ' hk => ?_⟩
   obtain ⟨e1, e2⟩ := k2 k ρ' (Pat.left hk)
   have e3 := Pat.right hk (k1 0).1 0 _ rfl
   refine ⟨F2.append e1 (F2.cons (pt_obj e2 g3 g4 g0 (by simp)) F2.nil), ?_⟩
   rw [Nat.add_zero] at e3
   refine ⟨?_, ad, ?_, rfl⟩
   ·rw [e3]; show 0 < l.n * 1; omega
   ·rw [e3]
  ·cases h
 ·cases h⟩
abbrev rCl {α : Type} (f : FuncId) (e : TypeId) (l : RdL α) : Rd α := ⟨fun H x => match x with | .c (.fp f' i 0) => (match Nat.beq f' f, ptC H l.n i with | true, some y => l.rd H y | _, _ => none) | _ => none,
 fun k a => .c (.fp f (k + (l.os 0 a).length) 0), fun k a => l.os k a ++ [⟨.ro false, e, 1, l.n, .c (l.op k a)⟩], fun _ => True, fun {ρ w H x a v} hp h hv => by
 split at h
 ·rename_i f' i
  split at h
  ·rename_i y hf hy
   obtain rfl := Nat.eq_of_beq_eq_true hf
   obtain ⟨g0, g1, vs, g2, g3, g4⟩ := ptC_ok hp hy
   obtain ⟨h0, ad, hA, rfl⟩ := hv
   obtain ⟨ps, k1, k2⟩ := l.ok hp h g2
   rw [hA] at g3
   refine ⟨True.intro, ps ++ [pl4 (some ad) l.n l.n 1], fun k => ⟨by simp [(k1 k).1], allRo_append (k1 k).2 rfl⟩, fun k ρ' hk => ?_⟩
   obtain ⟨e1, e2⟩ := k2 k ρ' (Pat.left hk)
   have e3 := Pat.right hk (k1 0).1 0 _ rfl
   refine ⟨F2.append e1 (F2.cons (pt_obj e2 g3 g4 g0 (by simp)) F2.nil), ?_⟩
   rw [Nat.add_zero] at e3
   refine ⟨?_, ad, ?_, rfl⟩
   ·rw [e3]; show 0 < l.n * 1; omega
   ·rw [e3]
  ·cases h
 ·cases h⟩
def HO (P : Program) (I : World → Prop) (f : FuncId) (F : Ct) (az : List AV) (os : Hp) : Prop :=
 ∀ (args : List AV) (H : Hp) (g : List Prop) (av : AV) (objs : List Oj), F args H = some (g, av, objs) → allP g → ∀ (ρ : Pls) (w : World) (vals : List Value), I w → HpR ρ w H → F2 (avR ρ) args vals →
  ∀ (ps : List Pl) (v0 : List Value), os.length = ps.length → allRo os = true → (∀ ρ' : Pls, Pat ps 0 ρ' → F2 (fun o p => objR ρ' w p o) os ps ∧ F2 (avR ρ') az v0) →
   Calls P f (v0 ++ vals).toArray w (Ret fun v w' => Ext w w' ∧ ∃ ps, Left ρ w H av objs v w' ps)
section
variable {P : Program} {I : World → Prop} {f : FuncId} {az : List AV} {os : Hp} {T : Tab}
theorem HO_c {α : Type} (r : Rd α) {K : α → Ct} (h : ∀ a, r.pr a → HO P I f (K a) (az ++ [r.op os.length a]) (os ++ r.os os.length a)) : HO P I f (ctc r.rd fun _ => K) az os := by
 intro args H g av objs hF hg ρ w vals hI hp ha ps v0 l0 g0 k0
 obtain ⟨x, xs, a, rfl, hx, hF⟩ := ctc_inv hF
 obtain ⟨v, vs, rfl, hv, ha⟩ := F2.inv ha
 obtain ⟨hpr, qs, g1, k1⟩ := r.ok hp hx hv
 have := h a hpr xs H g av objs hF hg ρ w vs hI hp ha (ps ++ qs) (v0 ++ [v]) (by simp [l0, (g1 _).1]) (allRo_append g0 (g1 _).2) (fun ρ' hk => by
  have e := Pat.right hk l0
  rw [Nat.zero_add] at e
  obtain ⟨e1, e2⟩ := k0 ρ' (Pat.left hk)
  obtain ⟨e3, e4⟩ := k1 _ ρ' e
  exact ⟨F2.append e1 e3, F2.append e2 (F2.cons e4 F2.nil)⟩)
 rw [List.append_assoc] at this
 exact this
theorem HO_0 (hT : TabOk P T) (R : S) (rs : List ResultVar) (keep : List Nat) (n : Nat) {fn : Func} {c : Code} {gs : Prop} {x : AV} {os' : List Oj} (hf : P.funcs[f]? = some fn) (hW : ∀ w, I w → gs → W P n (noB (fun _ => undef)) w c ⟨args0 0 az, [], os⟩ (fun e s => (e = .ret ∨ e = .normal) ∧ s = R))
  (hb : fn.body = some c := by rfl) (hn : fn.ntmps = n := by rfl) (hres : fn.results = rs.toArray := by rfl) (hr : retS T R rs keep = some (x, os') := by kernel_rfl) (hl : Nat.ble az.length n = true := by kernel_rfl) :
  HO P I f (ct0 fun H => ([gs], shA H.length x, shH H.length os')) az os := by
 intro args H g av objs hF hg ρ w vals hI hp ha ps v0 l0 g0 k0
 obtain ⟨rfl, rfl, rfl, rfl⟩ := ct0_inv hF
 obtain rfl := F2.inv0 ha
 rw [List.append_nil]
 obtain ⟨f0, hv⟩ := k0 (plL ps) (fun j p hj => by rw [Nat.zero_add]; unfold plL; rw [hj])
 have hR0 := rel0 (gv := fun _ => undef) (n := n) (w := w) (gl := []) (ρ := plL ps) (fun i o ho => by
  obtain ⟨p, hp, hr⟩ := f0.at ho
  show objR _ _ (plL ps i) o
  unfold plL; rw [hp]; exact hr) (allRo_ok g0) hv GlR.nil (by rw [← hv.1]; exact Nat.le_of_ble_eq_true hl)
 refine calls_W hf hb hn hR0 (hW w hI hg) ?_
 rintro e s' ⟨he, rfl⟩
 exact ⟨he, fun a' w' hr' => retS_ok hT hr' (rs := rs) hres hr⟩
theorem fnok {F : Ct} {fn : Func} (hf : P.funcs[f]? = some fn) (h : HO P I f F [] []) (h1 : ((fn.name == "runtime.NumGoroutine") = false) := by kernel_rfl) (h2 : fn.body.isNone = false := by kernel_rfl) : FnOk P I f F :=
 ⟨fun args H g av objs hF hg ρ w vals hI hp ha => h args H g av objs hF hg ρ w vals hI hp ha [] [] rfl rfl (fun _ _ => ⟨F2.nil, F2.nil⟩), fn, hf, h1, h2⟩
end
end Go.Sx
end
section
namespace Go.Sx
open Go.RowKit Go.Ch
abbrev CtA := List AV → Hp → List Nat → List Nat → Option (List Prop × AV × List (Nat × Oj) × List Oj)
def cmc {α : Type} (rd : Hp → AV → Option α) (k : α → CtA) : CtA := fun args H gs ks => match args with | x :: xs => (match rd H x with | some a => k a xs H gs ks | none => none) | [] => none
def notIn (l : List Nat) (i : Nat) : Bool := match l with | [] => true | j :: r => !Nat.beq i j && notIn r i
def disj : List Nat → List Nat → Bool
 | [], _ => true
 | i :: r, l => notIn l i && disj r l
def nodupB : List Nat → Bool
 | [] => true
 | i :: r => notIn r i && nodupB r
def idA : AV → List Nat
 | .c (.wh i) => [i]
 | .c (.sl i _ _) => [i]
 | .c (.dv i _) => [i]
 | _ => []
def cmb (k : List UInt8 → CtA) : CtA := fun args H gs ks => match args with | x :: xs => (match aB H x, disj (idA x) (gs ++ ks) with | some a, true => k a xs H gs ks | _, _ => none) | [] => none
theorem notIn_ok : ∀ {l : List Nat} {i : Nat}, notIn l i = true → i ∉ l
 | [], _, _, h => by cases h
 | j :: r, i, hn, h => by
  simp only [notIn, Bool.and_eq_true, Bool.not_eq_true'] at hn
  rcases List.mem_cons.1 h with rfl | h
  ·simp at hn
  ·exact notIn_ok hn.2 h
theorem disj_ok : ∀ {l r : List Nat}, disj l r = true → ∀ i, i ∈ l → i ∉ r
 | [], _, _, i, h => by cases h
 | j :: l, r, hd, i, h => by
  simp only [disj, Bool.and_eq_true] at hd
  rcases List.mem_cons.1 h with rfl | h
  ·exact notIn_ok hd.1
  ·exact disj_ok hd.2 i h
theorem nodupB_ok : ∀ {l : List Nat}, nodupB l = true → ∀ (i j k : Nat), l[i]? = some k → l[j]? = some k → i = j
 | [], _, i, _, k, h, _ => by simp at h
 | x :: l, hn, i, j, k, h1, h2 => by
  simp only [nodupB, Bool.and_eq_true] at hn
  cases i with
  | zero => cases j with
   | zero => rfl
   | succ j =>
    simp only [List.getElem?_cons_zero, List.getElem?_cons_succ, Option.some.injEq] at h1 h2
    subst h1
    exact absurd (List.mem_of_getElem? h2) (notIn_ok hn.1)
  | succ i => cases j with
   | zero =>
    simp only [List.getElem?_cons_zero, List.getElem?_cons_succ, Option.some.injEq] at h1 h2
    subst h2
    exact absurd (List.mem_of_getElem? h1) (notIn_ok hn.1)
   | succ j => rw [nodupB_ok hn.2 i j k (by simpa using h1) (by simpa using h2)]
structure MRd (α : Type) where
 rd : Hp → AV → Option α
 ix : Hp → AV → List Nat
 os : Nat → α → List Oj
 ok : ∀ {ρ : Pls} {w : World} {H : Hp} {x : AV} {a : α} {v : Value}, HpR ρ w H → rd H x = some a → avR ρ x v → (∃ i l, ix H x = i :: l) ∧ ∀ k, (os k a).length = (ix H x).length ∧
  (∀ (j : Nat) (o : Oj) (i : Nat), (os k a)[j]? = some o → (ix H x)[j]? = some i → ∃ o', H[i]? = some o' ∧ o'.own = true ∧ o.own = true ∧ o.n = o'.n ∧ o.sz = o'.sz ∧ ∀ g, objAt (ρ i) o g → objAt (ρ i) o' g) ∧
  ∀ ρ' : Pls, (∀ (j i : Nat), (ix H x)[j]? = some i → ρ' (k + j) = ρ i) → (∀ (j : Nat) (o : Oj) (i : Nat), (os k a)[j]? = some o → (ix H x)[j]? = some i → objR ρ' w (ρ i) o) ∧ avR ρ' (kP k 0) v
def cmm {α : Type} (m : MRd α) (k : α → CtA) : CtA := fun args H gs ks => match args with
 | x :: xs => (match m.rd H x, m.ix H x with
  | some a, i :: l => (match disj (i :: l) (gs ++ ks) && nodupB (i :: l) with | true => k a xs H (gs ++ [i]) (ks ++ l) | false => none)
  | _, _ => none)
 | [] => none
structure MC (α : Type) where
 rd : Hp → Cl → Option α
 ix : Hp → Cl → List Nat
 cl : Nat → α → Cl
 os : Nat → α → List Oj
 ok : ∀ {ρ : Pls} {w : World} {H : Hp} {x : Cl} {a : α} {v : Value}, HpR ρ w H → rd H x = some a → clR ρ x v → ∀ k : Nat, (os k a).length = (ix H x).length ∧
  (∀ (j : Nat) (o : Oj) (i : Nat), (os k a)[j]? = some o → (ix H x)[j]? = some i → ∃ o', H[i]? = some o' ∧ o'.own = true ∧ o.own = true ∧ o.n = o'.n ∧ o.sz = o'.sz ∧ ∀ g, objAt (ρ i) o g → objAt (ρ i) o' g) ∧
  ∀ (ρ' : Pls), (∀ (j i : Nat), (ix H x)[j]? = some i → ρ' (k + j) = ρ i) → (∀ (j : Nat) (o : Oj) (i : Nat), (os k a)[j]? = some o → (ix H x)[j]? = some i → objR ρ' w (ρ i) o) ∧ clR ρ' (cl k a) v
abbrev mU8 : MC UInt8 := ⟨fun _ c => match c with | .s (.u8 n) => some n | _ => none, fun _ _ => [], fun _ n => .s (.u8 n), fun _ _ => [], fun {ρ w H x a v} _ h hv => by
 split at h
 ·injection h with h; subst h; exact fun k => ⟨rfl, fun j o i ho => by simp at ho, fun ρ' _ => ⟨fun j o i ho => by simp at ho, hv⟩⟩
 ·cases h⟩
abbrev mE0 (t : TypeId) : MC Unit := ⟨fun _ c => match c with | .s (.v .nilIface) => some () | .s (.er _ _ none) => some () | _ => none, fun _ _ => [], fun _ _ => .s (.er t .i64 none), fun _ _ => [], fun {ρ w H x a v} _ h hv => by
 split at h
 ·exact fun k => ⟨rfl, fun j o i ho => by simp at ho, fun ρ' _ => ⟨fun j o i ho => by simp at ho, hv⟩⟩
 ·exact fun k => ⟨rfl, fun j o i ho => by simp at ho, fun ρ' _ => ⟨fun j o i ho => by simp at ho, hv⟩⟩
 ·cases h⟩
def rowB (H : Hp) (e : TypeId) (c : Cl) : Option (List UInt8) := match c with
 | .wh i => (match H[i]? with | some o => (match o.kd, Nat.beq o.e e, o.sz, o.cs with | .row, true, 1, .b l => some l | _, _, _, _ => none) | none => none)
 | _ => none
def ixC : Cl → List Nat
 | .wh i => [i]
 | _ => []
theorem row_n {ρ : Pls} {w : World} {p : Pl} {o : Oj} (h : objR ρ w p o) (hk : o.kd = .row) (hs : o.sz = 1) : o.n = o.cs.cl.length := by
 unfold objR at h
 simp only [hk] at h
 have := h.1.2.2
 rw [hs] at this; omega
theorem row_one {ρ : Pls} {w : World} {H : Hp} {i : Nat} {o : Oj} {v : Value} (hp : HpR ρ w H) (ho : H[i]? = some o) (hown : o.own = true) (hlt : ltX 0 o.cs = true) (hv : clR ρ (.wh i) v) : ∀ k : Nat, [o].length = (ixC (.wh i)).length ∧
  (∀ (j : Nat) (o1 : Oj) (i1 : Nat), [o][j]? = some o1 → (ixC (.wh i))[j]? = some i1 → ∃ o', H[i1]? = some o' ∧ o'.own = true ∧ o1.own = true ∧ o1.n = o'.n ∧ o1.sz = o'.sz ∧ ∀ g, objAt (ρ i1) o1 g → objAt (ρ i1) o' g) ∧
  ∀ (ρ' : Pls), (∀ (j i1 : Nat), (ixC (.wh i))[j]? = some i1 → ρ' (k + j) = ρ i1) → (∀ (j : Nat) (o1 : Oj) (i1 : Nat), [o][j]? = some o1 → (ixC (.wh i))[j]? = some i1 → objR ρ' w (ρ i1) o1) ∧ clR ρ' (.wh k) v := fun k => by
 have one : ∀ {j : Nat} {o1 : Oj} {i1 : Nat}, [o][j]? = some o1 → (ixC (.wh i))[j]? = some i1 → o1 = o ∧ i1 = i := fun {j o1 i1} h1 h2 => by
  cases j with
  | zero => simp only [ixC, List.getElem?_cons_zero, Option.some.injEq] at h1 h2; exact ⟨h1.symm, h2.symm⟩
  | succ j => simp at h1
 refine ⟨rfl, fun j o1 i1 h1 h2 => ?_, fun ρ' hk => ⟨fun j o1 i1 h1 h2 => ?_, ?_⟩⟩
 ·obtain ⟨rfl, rfl⟩ := one h1 h2
  exact ⟨_, ho, hown, hown, rfl, rfl, fun g h => h⟩
 ·obtain ⟨rfl, rfl⟩ := one h1 h2
  exact objR_lt (ρ' := ρ') (m := 0) (fun i hi => absurd hi (Nat.not_lt_zero i)) (fun _ => hlt) (hp _ _ ho)
 ·have := hk 0 i rfl
  rw [Nat.add_zero] at this
  show v = _
  rw [this]; exact hv
abbrev mB (e : TypeId) : MC (List UInt8) := ⟨fun H c => rowB H e c, fun _ => ixC, fun k _ => .wh k, fun _ l => [nb e l], fun {ρ w H x a v} hp h hv => by
 unfold rowB at h
 split at h
 ·rename_i i
  split at h
  ·rename_i o ho
   split at h
   ·rename_i l h1 h2 h3 h4
    injection h with h; subst h
    have hn := row_n (hp i o ho) h1 h3
    have e2 := Nat.eq_of_beq_eq_true h2
    have en : o.n = l.length := by rw [hn, h4]; simp [Cs.cl]
    have eo : o = nb e l := by
     obtain ⟨kd, e', sz, n, cs⟩ := o
     simp only at h1 h2 h3 h4 en e2
     subst h1; subst h3; subst h4; subst en; subst e2; rfl
    subst eo
    exact row_one hp ho rfl rfl hv
   ·cases h
  ·cases h
 ·cases h⟩
structure ML (α : Type) where
 n : Nat
 rd : Hp → List Cl → Option α
 ix : Hp → List Cl → List Nat
 cl : Nat → α → List Cl
 os : Nat → α → List Oj
 ok : ∀ {ρ : Pls} {w : World} {H : Hp} {x : List Cl} {a : α} {v : List Value}, HpR ρ w H → rd H x = some a → F2 (clR ρ) x v → x.length = n ∧ ∀ k : Nat, (cl k a).length = n ∧ (os k a).length = (ix H x).length ∧
  (∀ (j : Nat) (o : Oj) (i : Nat), (os k a)[j]? = some o → (ix H x)[j]? = some i → ∃ o', H[i]? = some o' ∧ o'.own = true ∧ o.own = true ∧ o.n = o'.n ∧ o.sz = o'.sz ∧ ∀ g, objAt (ρ i) o g → objAt (ρ i) o' g) ∧
  ∀ (ρ' : Pls), (∀ (j i : Nat), (ix H x)[j]? = some i → ρ' (k + j) = ρ i) → (∀ (j : Nat) (o : Oj) (i : Nat), (os k a)[j]? = some o → (ix H x)[j]? = some i → objR ρ' w (ρ i) o) ∧ F2 (clR ρ') (cl k a) v
abbrev mN : ML Unit := ⟨0, fun _ x => match x with | [] => some () | _ => none, fun _ _ => [], fun _ _ => [], fun _ _ => [], fun {ρ w H x a v} _ h hv => by
 cases x with
 | nil => exact ⟨rfl, fun k => ⟨rfl, rfl, fun j o i ho => by simp at ho, fun ρ' _ => ⟨fun j o i ho => by simp at ho, hv.1, fun j x y hx => by simp at hx⟩⟩⟩
 | cons y ys => cases h⟩
theorem parts_at {α : Type} {xs ys : List α} {j : Nat} {o : α} (h : (xs ++ ys)[j]? = some o) : (j < xs.length ∧ xs[j]? = some o) ∨ (xs.length ≤ j ∧ ys[j - xs.length]? = some o) := by
 by_cases hj : j < xs.length
 ·rw [List.getElem?_append_left hj] at h; exact .inl ⟨hj, h⟩
 ·rw [List.getElem?_append_right (by omega)] at h; exact .inr ⟨by omega, h⟩
abbrev mC {α β : Type} (c : MC α) (l : ML β) : ML (α × β) := ⟨l.n + 1, fun H x => match x with | y :: ys => (match c.rd H y with | some a => (match l.rd H ys with | some b => some (a, b) | none => none) | none => none) | [] => none,
 fun H x => match x with | y :: ys => c.ix H y ++ l.ix H ys | [] => [], fun k p => c.cl k p.1 :: l.cl (k + (c.os k p.1).length) p.2, fun k p => c.os k p.1 ++ l.os (k + (c.os k p.1).length) p.2, fun {ρ w H x a v} hp h hv => by
  cases x with
  | nil => cases h
  | cons y ys =>
   dsimp only at h
   split at h
   ·rename_i a1 h1
    split at h
    ·rename_i b1 h2
     injection h with h; subst h
     obtain ⟨u, us, rfl, hu, hus⟩ := hv.uncons
     have hc := c.ok hp h1 hu
     obtain ⟨d0, hd⟩ := l.ok hp h2 hus
     refine ⟨by simp [d0], fun k => ?_⟩
     obtain ⟨c1, c2, c3⟩ := hc k
     obtain ⟨d1, d2, d3, d4⟩ := hd (k + (c.os k a1).length)
     have par : ∀ {j : Nat} {o : Oj} {i : Nat}, (c.os k a1 ++ l.os (k + (c.os k a1).length) b1)[j]? = some o → (c.ix H y ++ l.ix H ys)[j]? = some i → ((c.os k a1)[j]? = some o ∧ (c.ix H y)[j]? = some i) ∨ ((l.os (k + (c.os k a1).length) b1)[j - (c.os k a1).length]? = some o ∧ (l.ix H ys)[j - (c.os k a1).length]? = some i) := by
      intro j o i ho hi
      rcases parts_at ho with ⟨e1, e2⟩ | ⟨e1, e2⟩
      ·rcases parts_at hi with ⟨e3, e4⟩ | ⟨e3, _⟩
       ·exact .inl ⟨e2, e4⟩
       ·omega
      ·rcases parts_at hi with ⟨e3, _⟩ | ⟨e3, e4⟩
       ·omega
       ·exact .inr ⟨e2, by rw [c1]; exact e4⟩
     refine ⟨by simp [d1], by show (c.os k a1 ++ l.os (k + (c.os k a1).length) b1).length = (c.ix H y ++ l.ix H ys).length; rw [List.length_append, d2, c1, List.length_append], fun j o i ho hi => ?_, fun ρ' hk => ?_⟩
     ·rcases par ho hi with ⟨e1, e2⟩ | ⟨e1, e2⟩
      ·exact c2 j o i e1 e2
      ·exact d3 _ o i e1 e2
     ·obtain ⟨k1, k2⟩ := c3 ρ' fun j i hi => hk j i (by rw [List.getElem?_append_left (List.getElem?_eq_some_iff.1 hi).1]; exact hi)
      obtain ⟨k3, k4⟩ := d4 ρ' fun j i hi => by
       rw [Nat.add_assoc]
       refine hk _ i ?_
       rw [List.getElem?_append_right (by rw [c1]; omega), c1, Nat.add_sub_cancel_left]; exact hi
      refine ⟨fun j o i ho hi => ?_, F2.cons k2 k4⟩
      rcases par ho hi with ⟨e1, e2⟩ | ⟨e1, e2⟩
      ·exact k1 j o i e1 e2
      ·exact k3 _ o i e1 e2
    ·cases h
   ·cases h⟩
def rowL (H : Hp) (e : TypeId) (sz n i : Nat) : Option (List Cl) := match H[i]? with
 | some o => (match o.kd, Nat.beq o.e e, Nat.beq o.sz sz, Nat.beq o.n n, o.cs with | .row, true, true, true, .c l => some l | _, _, _, _, _ => none)
 | none => none
def whI : Cl → Option Nat
 | .wh i => some i
 | _ => none
abbrev mR {α : Type} (e : TypeId) (sz n : Nat) (l : ML α) : MC α := ⟨fun H c => match whI c with | some i => (match rowL H e sz n i with | some cs => l.rd H cs | none => none) | none => none,
 fun H c => match whI c with | some i => (match rowL H e sz n i with | some cs => i :: l.ix H cs | none => []) | none => [],
 fun k _ => .wh k, fun k a => ⟨.row, e, sz, n, .c (l.cl (k + 1) a)⟩ :: l.os (k + 1) a, fun {ρ w H x a v} hp h hv => by
  split at h
  ·rename_i i hi
   split at h
   ·rename_i cs hcs
    have hcs0 := hcs
    unfold rowL at hcs
    split at hcs
    ·rename_i o ho
     split at hcs
     ·rename_i cs2 h1 h2 h3 h4 h5
      injection hcs with hcs; subst hcs
      have hr := hp i o ho
      unfold objR at hr
      simp only [h1] at hr
      obtain ⟨⟨e1, e2, e3⟩, vs, hc, hB⟩ := hr
      have hcl : F2 (clR ρ) cs2 vs := by rw [h5] at hc; exact hc
      obtain ⟨d0, hd⟩ := l.ok hp h hcl
      have hoe := Nat.eq_of_beq_eq_true h2
      have hos := Nat.eq_of_beq_eq_true h3
      have hon := Nat.eq_of_beq_eq_true h4
      have hln : l.n = n * sz := by rw [← d0, ← hos, ← hon, ← e3, h5]; rfl
      intro k
      obtain ⟨d1, d2, d3, d4⟩ := hd (k + 1)
      refine ⟨by simp [d2], fun j o' i' ho' hi' => ?_, fun ρ' hk => ?_⟩
      ·cases j with
       | zero =>
        simp only [List.getElem?_cons_zero, Option.some.injEq] at ho' hi'
        subst ho'; subst hi'
        refine ⟨o, ho, by unfold Oj.own; rw [h1], rfl, hon.symm, hos.symm, fun g hg => ?_⟩
        unfold objAt at hg ⊢
        simp only [h1]; exact hg
       | succ j => exact d3 j o' i' (by simpa using ho') (by simpa using hi')
      ·obtain ⟨k1, k2⟩ := d4 ρ' fun j i hi => by
        have := hk (j + 1) i (by simpa using hi)
        rw [Nat.add_assoc, Nat.add_comm 1 j]; exact this
       refine ⟨fun j o' i' ho' hi' => ?_, ?_⟩
       ·cases j with
        | zero =>
         simp only [List.getElem?_cons_zero, Option.some.injEq] at ho' hi'
         subst ho'; subst hi'
         unfold objR
         exact ⟨⟨by rw [e1, hos], by rw [e2, hon], by show (l.cl (k + 1) a).length = n * sz; rw [d1, hln]⟩, vs, k2, by rw [← hoe, ← hos]; exact hB⟩
        | succ j => exact k1 j o' i' (by simpa using ho') (by simpa using hi')
       ·have hx : x = .wh i := by
         unfold whI at hi
         split at hi
         ·injection hi with hi; subst hi; rfl
         ·cases hi
        subst hx
        have := hk 0 i rfl
        rw [Nat.add_zero] at this
        show v = _
        rw [this]; exact hv
     ·cases hcs
    ·cases hcs
   ·cases h
  ·cases h⟩
def blkC (H : Hp) (e : TypeId) (n i : Nat) : Option (List Cl) := match H[i]? with
 | some o => (match o.kd, Nat.beq o.e e, o.sz, Nat.beq o.n n, o.cs with | .blk, true, 1, true, .c l => some l | _, _, _, _, _ => none)
 | none => none
def ptI : AV → Option Nat
 | .c (.pt i 0) => some i
 | _ => none
abbrev mP {α : Type} (e : TypeId) (l : ML α) : MRd α := ⟨fun H x => match ptI x with | some i => (match blkC H e l.n i with | some cs => l.rd H cs | none => none) | none => none,
 fun H x => match ptI x with | some i => (match blkC H e l.n i with | some cs => i :: l.ix H cs | none => []) | none => [],
 fun k a => ⟨.blk, e, 1, l.n, .c (l.cl (k + 1) a)⟩ :: l.os (k + 1) a, fun {ρ w H x a v} hp h hv => by
  split at h
  ·rename_i i hi
   split at h
   ·rename_i cs hcs
    have hcs0 := hcs
    unfold blkC at hcs
    split at hcs
    ·rename_i o ho
     split at hcs
     ·rename_i cs2 h1 h2 h3 h4 h5
      injection hcs with hcs; subst hcs
      have hr := hp i o ho
      unfold objR at hr
      simp only [h1] at hr
      obtain ⟨⟨e1, e2, e3⟩, b, vs, hA, hc, hB⟩ := hr
      have hcl : F2 (clR ρ) cs2 vs := by rw [h5] at hc; exact hc
      obtain ⟨d0, hd⟩ := l.ok hp h hcl
      have hoe := Nat.eq_of_beq_eq_true h2
      have hon := Nat.eq_of_beq_eq_true h4
      refine ⟨⟨_, _, rfl⟩, fun k => ?_⟩
      obtain ⟨d1, d2, d3, d4⟩ := hd (k + 1)
      refine ⟨by simp [d2], fun j o' i' ho' hi' => ?_, fun ρ' hk => ?_⟩
      ·cases j with
       | zero =>
        simp only [List.getElem?_cons_zero, Option.some.injEq] at ho' hi'
        subst ho'; subst hi'
        refine ⟨o, ho, by unfold Oj.own; rw [h1], rfl, hon.symm, h3.symm, fun g hg => ?_⟩
        unfold objAt at hg ⊢
        simp only [h1]; exact hg
       | succ j => exact d3 j o' i' (by simpa using ho') (by simpa using hi')
      ·obtain ⟨k1, k2⟩ := d4 ρ' fun j i hi => by
        have := hk (j + 1) i (by simpa using hi)
        rw [Nat.add_assoc, Nat.add_comm 1 j]; exact this
       refine ⟨fun j o' i' ho' hi' => ?_, ?_⟩
       ·cases j with
        | zero =>
         simp only [List.getElem?_cons_zero, Option.some.injEq] at ho' hi'
         subst ho'; subst hi'
         unfold objR
         exact ⟨⟨by rw [e1, h3], by rw [e2, hon], by show (l.cl (k + 1) a).length = l.n * 1; rw [d1]; omega⟩, b, vs, hA, k2, by rw [← hoe]; exact hB⟩
        | succ j => exact k1 j o' i' (by simpa using ho') (by simpa using hi')
       ·have hx : x = .c (.pt i 0) := by
         unfold ptI at hi
         split at hi
         ·injection hi with hi; subst hi; rfl
         ·cases hi
        subst hx
        obtain ⟨g0, ad, g1, rfl⟩ := hv
        have := hk 0 i rfl
        rw [Nat.add_zero] at this
        exact ⟨by rw [this]; exact g0, ad, by rw [this]; exact g1, rfl⟩
     ·cases hcs
    ·cases hcs
   ·cases h
  ·cases h⟩
structure HmI (mm : Bool) (ρ : Pls) (w : World) (H : Hp) (az : List AV) (os : Hp) (gs ks : List Nat) (ps : List Pl) (v0 : List Value) : Prop where
 cnt : mm = true → gs.length = az.length
 len : os.length = ps.length
 val : ∀ ρ' : Pls, Pat ps 0 ρ' → (∀ (j : Nat) (o : Oj) (p : Pl), os[j]? = some o → ps[j]? = some p → objR ρ' w p o) ∧ F2 (avR ρ') az v0
 own : ∀ (j : Nat) (o : Oj) (p : Pl) (g : Nat), os[j]? = some o → ps[j]? = some p → objAt p o g → (o.own = true ∧ ∃ i o', i ∈ gs ++ ks ∧ H[i]? = some o' ∧ o'.own = true ∧ objAt (ρ i) o' g) ∨ (o.own = false ∧ o.fsh = false ∧ ∃ i o', i ∉ gs ++ ks ∧ H[i]? = some o' ∧ objAt (ρ i) o' g)
 sep : ∀ (i j : Nat) (a b : Oj) (p q : Pl) (g : Nat), i ≠ j → os[i]? = some a → os[j]? = some b → ps[i]? = some p → ps[j]? = some q → a.own = true → objAt p a g → ¬ objAt q b g
 gho : ∀ (q i : Nat), gs[q]? = some i → ∃ k o o', az[q]? = some (kP k 0) ∧ os[k]? = some o ∧ ps[k]? = some (ρ i) ∧ H[i]? = some o' ∧ o.n = o'.n ∧ o.sz = o'.sz
 ina : ∀ i, i ∈ gs ++ ks → ∃ o', H[i]? = some o' ∧ o'.own = true
 nod : ∀ (i j k : Nat), (gs ++ ks)[i]? = some k → (gs ++ ks)[j]? = some k → i = j
def HOM (mm : Bool) (P : Program) (f : FuncId) (F : CtA) (az : List AV) (os : Hp) : Prop :=
 ∀ (args : List AV) (H : Hp) (g : List Prop) (av : AV) (up : List (Nat × Oj)) (objs : List Oj) (gs ks : List Nat), F args H gs ks = some (g, av, up, objs) → allP g → ∀ (ρ : Pls) (w : World) (vals : List Value), HpR ρ w H → SepR ρ H → F2 (avR ρ) args vals →
  ∀ (ps : List Pl) (v0 : List Value), HmI mm ρ w H az os gs ks ps v0 →
   Calls P f (v0 ++ vals).toArray w (Ret fun v w' => Kp ⟨consB ρ H up, fun _ => undef⟩ w w' ∧ ∃ ps pu, LeftM ρ w H av up objs v w' ps pu)
def allOwn : Hp → Bool
 | [] => true
 | o :: l => o.own && allOwn l
theorem allOwn_ok : ∀ {H : Hp}, allOwn H = true → ∀ (i : Nat) (o : Oj), H[i]? = some o → o.own = true
 | [], _, i, o, h => by simp at h
 | x :: l, h, i, o, ho => by
  simp only [allOwn, Bool.and_eq_true] at h
  cases i with
  | zero => simp at ho; subst ho; exact h.1
  | succ i => exact allOwn_ok h.2 i o (by simpa using ho)
section
variable {P : Program} {f : FuncId} {az : List AV} {os : Hp} {T : Tab}
theorem mem_perm {gs ks l : List Nat} {i k : Nat} : k ∈ (gs ++ [i]) ++ (ks ++ l) ↔ k ∈ gs ++ ks ∨ k ∈ i :: l := by
 simp only [List.mem_append, List.mem_cons, List.not_mem_nil, or_false]
 constructor
 ·rintro ((h | h) | (h | h)) <;> simp [h]
 ·rintro ((h | h) | (h | h)) <;> simp [h]
theorem nod_iff {l : List Nat} : (∀ (i j k : Nat), l[i]? = some k → l[j]? = some k → i = j) ↔ l.Nodup := by
 rw [List.Nodup, List.pairwise_iff_getElem]
 constructor
 ·intro h i j hi hj hij e
  have := h i j l[i] (List.getElem?_eq_getElem hi) (by rw [List.getElem?_eq_getElem hj]; exact congrArg some e.symm)
  omega
 ·intro h i j k hi hj
  obtain ⟨hi1, hi2⟩ := List.getElem?_eq_some_iff.1 hi
  obtain ⟨hj1, hj2⟩ := List.getElem?_eq_some_iff.1 hj
  rcases Nat.lt_trichotomy i j with hlt | he | hlt
  ·exact absurd (hi2.trans hj2.symm) (h i j hi1 hj1 hlt)
  ·exact he
  ·exact absurd (hj2.trans hi2.symm) (h j i hj1 hi1 hlt)
theorem HM_c {mm : Bool} {α : Type} (r : Rd α) {K : α → CtA} (h : ∀ a, r.pr a → HOM false P f (K a) (az ++ [r.op 0 a]) os) (h0 : ∀ k a, r.os k a = [] ∧ r.op k a = r.op 0 a := by exact fun _ _ => ⟨rfl, rfl⟩) : HOM mm P f (cmc r.rd K) az os := by
 intro args H g av up objs gs ks hF hg ρ w vals hp hs ha ps v0 hI
 cases args with
 | nil => cases hF
 | cons x xs =>
  simp only [cmc] at hF
  split at hF
  ·rename_i a hx
   obtain ⟨v, vs, rfl, hv, ha⟩ := F2.inv ha
   obtain ⟨hpr, qs, g1, k1⟩ := r.ok hp hx hv
   have hqs : qs = [] := List.eq_nil_of_length_eq_zero (by rw [← (g1 0).1, (h0 0 a).1]; rfl)
   subst hqs
   have := h a hpr xs H g av up objs gs ks hF hg ρ w vs hp hs ha ps (v0 ++ [v]) ⟨(fun h => nomatch h), hI.len, fun ρ' hk => ⟨(hI.val ρ' hk).1, F2.append (hI.val ρ' hk).2 (F2.cons ((k1 0 ρ' (fun j p hj => by simp at hj)).2) F2.nil)⟩, hI.own, hI.sep, fun q i hq => by
    obtain ⟨k, o, o', h1, h2⟩ := hI.gho q i hq
    exact ⟨k, o, o', by rw [List.getElem?_append_left (List.getElem?_eq_some_iff.1 h1).1]; exact h1, h2⟩, hI.ina, hI.nod⟩
   rw [List.append_assoc] at this
   exact this
  ·cases hF
theorem HM_m {α : Type} (m : MRd α) {K : α → CtA} (h : ∀ a, HOM true P f (K a) (az ++ [kP os.length 0]) (os ++ m.os os.length a)) (ho : ∀ (i : Nat) (o : Oj), os[i]? = some o → o.own = true) : HOM true P f (cmm m K) az os := by
 intro args H g av up objs gs ks hF hg ρ w vals hp hs ha ps v0 hI
 have hgn := hI.cnt rfl
 cases args with
 | nil => cases hF
 | cons x xs =>
   simp only [cmm] at hF
   split at hF
   ·rename_i a i l hx hix
    split at hF
    ·rename_i hck
     simp only [Bool.and_eq_true] at hck
     have hdj := disj_ok hck.1
     obtain ⟨v, vs, rfl, hv, ha⟩ := F2.inv ha
     obtain ⟨_, hk0⟩ := m.ok hp hx hv
     obtain ⟨e1, e2, e3⟩ := hk0 os.length
     rw [hix] at e1 e2 e3
     have hqat : ∀ {j p}, ((i :: l).map ρ)[j]? = some p → ∃ i', (i :: l)[j]? = some i' ∧ p = ρ i' := fun {j p} hj => by
      rw [List.getElem?_map] at hj
      cases hi : (i :: l)[j]? with
      | none => rw [hi] at hj; cases hj
      | some i' => rw [hi] at hj; injection hj with hj; exact ⟨i', hi, hj.symm⟩
     have hnod : ((gs ++ [i]) ++ (ks ++ l)).Nodup := by
      have h1 : (gs ++ ks).Nodup := nod_iff.1 hI.nod
      have h2 : (i :: l).Nodup := nod_iff.1 (nodupB_ok hck.2)
      have h3 : ((gs ++ ks) ++ (i :: l)).Nodup := by
       rw [List.nodup_append]
       exact ⟨h1, h2, fun a ha b hb e => by subst e; exact hdj a hb ha⟩
      refine List.Perm.nodup ?_ h3
      rw [List.append_assoc, List.append_assoc]
      refine List.Perm.append_left gs ?_
      show (ks ++ i :: l).Perm (i :: (ks ++ l))
      exact List.perm_middle
     have hpart : ∀ {j : Nat} {o : Oj} {p : Pl}, (os ++ m.os os.length a)[j]? = some o → (ps ++ (i :: l).map ρ)[j]? = some p → (j < os.length ∧ os[j]? = some o ∧ ps[j]? = some p) ∨ ∃ q i', j = os.length + q ∧ (m.os os.length a)[q]? = some o ∧ (i :: l)[q]? = some i' ∧ p = ρ i' := by
      intro j o p hoj hpj
      by_cases hj : j < os.length
      ·rw [List.getElem?_append_left hj] at hoj
       rw [List.getElem?_append_left (by rw [← hI.len]; exact hj)] at hpj
       exact .inl ⟨hj, hoj, hpj⟩
      ·rw [List.getElem?_append_right (by omega)] at hoj
       rw [List.getElem?_append_right (by rw [← hI.len]; omega), ← hI.len] at hpj
       obtain ⟨i', h1, h2⟩ := hqat hpj
       exact .inr ⟨j - os.length, i', by omega, hoj, h1, h2⟩
     have := h a xs H g av up objs (gs ++ [i]) (ks ++ l) hF hg ρ w vs hp hs ha (ps ++ (i :: l).map ρ) (v0 ++ [v]) ⟨fun _ => by simp [hgn], by rw [List.length_append, List.length_append, e1, List.length_map, hI.len], fun ρ' hk => ?_, fun j o p g hoj hpj hat => ?_, fun j k x y p q g hjk hx' hy' hp' hq' hox hat hat2 => ?_, fun q j hq' => ?_, fun j hj => ?_, nod_iff.2 hnod⟩
     ·rw [List.append_assoc] at this; exact this
     ·obtain ⟨v1, v2⟩ := hI.val ρ' (Pat.left hk)
      have hr := Pat.right hk hI.len
      rw [Nat.zero_add] at hr
      obtain ⟨w1, w2⟩ := e3 ρ' fun j i' hi' => hr j (ρ i') (by rw [List.getElem?_map, hi']; rfl)
      refine ⟨fun j o p hoj hpj => ?_, F2.append v2 (F2.cons w2 F2.nil)⟩
      rcases hpart hoj hpj with ⟨_, h1, h2⟩ | ⟨q, i', rfl, h1, h2, rfl⟩
      ·exact v1 j o p h1 h2
      ·exact w1 q o i' h1 h2
     ·rcases hpart hoj hpj with ⟨_, h1, h2⟩ | ⟨q, i', rfl, h1, h2, rfl⟩
      ·rcases hI.own j o p g h1 h2 hat with ⟨h3, i', o', h4, h5⟩ | ⟨h3, _⟩
       ·exact .inl ⟨h3, i', o', mem_perm.2 (.inl h4), h5⟩
       ·rw [ho j o h1] at h3; cases h3
      ·obtain ⟨o', h3, h4, h5, _, _, h6⟩ := e2 q o i' h1 h2
       exact .inl ⟨h5, i', o', mem_perm.2 (.inr (List.mem_of_getElem? h2)), h3, h4, h6 g hat⟩
     ·have cross : ∀ {j : Nat} {o : Oj} {p : Pl} {q : Nat} {o2 : Oj} {i' : Nat}, os[j]? = some o → ps[j]? = some p → objAt p o g → (m.os os.length a)[q]? = some o2 → (i :: l)[q]? = some i' → objAt (ρ i') o2 g → False := by
       intro j o p q o2 i' h1 h2 h3 h4 h5 h6
       rcases hI.own j o p g h1 h2 h3 with ⟨_, i2, o', h7, h8, h9, h10⟩ | ⟨h7, _⟩
       ·obtain ⟨o'', k1, k2, _, _, _, k3⟩ := e2 q o2 i' h4 h5
        refine hs i2 i' o' o'' g (fun e => ?_) h8 k1 h9 h10 (k3 g h6)
        subst e
        exact hdj i2 (List.mem_of_getElem? h5) h7
       ·rw [ho j o h1] at h7; cases h7
      rcases hpart hx' hp' with ⟨_, h1, h2⟩ | ⟨q1, i1, rfl, h1, h2, rfl⟩
      ·rcases hpart hy' hq' with ⟨_, h3, h4⟩ | ⟨q2, i2, rfl, h3, h4, rfl⟩
       ·exact hI.sep j k x y p q g hjk h1 h3 h2 h4 hox hat hat2
       ·exact cross h1 h2 hat h3 h4 hat2
      ·rcases hpart hy' hq' with ⟨_, h3, h4⟩ | ⟨q2, i2, rfl, h3, h4, rfl⟩
       ·exact cross h3 h4 hat2 h1 h2 hat
       ·obtain ⟨o1, k1, k2, _, _, _, k3⟩ := e2 q1 x i1 h1 h2
        obtain ⟨o2, k4, k5, _, _, _, k6⟩ := e2 q2 y i2 h3 h4
        refine hs i1 i2 o1 o2 g (fun e => ?_) k1 k4 k2 (k3 g hat) (k6 g hat2)
        subst e
        exact hjk (by rw [nodupB_ok hck.2 q1 q2 i1 h2 h4])
     ·by_cases hql : q < gs.length
      ·rw [List.getElem?_append_left hql] at hq'
       obtain ⟨k, o, o', h1, h2, h3, h4⟩ := hI.gho q j hq'
       exact ⟨k, o, o', by rw [List.getElem?_append_left (List.getElem?_eq_some_iff.1 h1).1]; exact h1, by rw [List.getElem?_append_left (List.getElem?_eq_some_iff.1 h2).1]; exact h2, by rw [List.getElem?_append_left (List.getElem?_eq_some_iff.1 h3).1]; exact h3, h4⟩
      ·have hq2 : q = gs.length := by
        have := (List.getElem?_eq_some_iff.1 hq').1
        simp at this; omega
       subst hq2
       rw [List.getElem?_append_right (Nat.le_refl _), Nat.sub_self] at hq'
       simp only [List.getElem?_cons_zero, Option.some.injEq] at hq'
       subst hq'
       have hpos : 0 < (m.os os.length a).length := by rw [e1]; simp
       obtain ⟨o', h3, _, _, h6, h7, _⟩ := e2 0 _ i (List.getElem?_eq_getElem hpos) rfl
       refine ⟨os.length, (m.os os.length a)[0], o', ?_, ?_, ?_, h3, h6, h7⟩
       ·rw [hgn, List.getElem?_append_right (Nat.le_refl _), Nat.sub_self]; rfl
       ·rw [List.getElem?_append_right (Nat.le_refl _), Nat.sub_self]; exact List.getElem?_eq_getElem hpos
       ·rw [hI.len, List.getElem?_append_right (Nat.le_refl _), Nat.sub_self]; rfl
     ·rcases mem_perm.1 hj with hj | hj
      ·exact hI.ina j hj
      ·obtain ⟨q, hq'⟩ := List.mem_iff_getElem?.1 hj
       have hlt : q < (m.os os.length a).length := by rw [e1]; exact (List.getElem?_eq_some_iff.1 hq').1
       obtain ⟨o', h3, h4, _⟩ := e2 q _ j (List.getElem?_eq_getElem hlt) hq'
       exact ⟨o', h3, h4⟩
    ·cases hF
   ·cases hF
theorem aB_at {ρ : Pls} {w : World} {H : Hp} (hp : HpR ρ w H) {x : AV} {l : List UInt8} (h : aB H x = some l) {v : Value} (hv : avR ρ x v) {p : Pl} (hpv : v = .slice p.A p.n p.cap) (h0 : 0 < p.n) {ad : Addr} (hA : p.A = some ad) : ∃ i o', i ∈ idA x ∧ H[i]? = some o' ∧ objAt (ρ i) o' ad.block := by
 cases x with
 | c c =>
  have hvb : viewB H c = some l := h
  cases c with
  | nils =>
   rw [show v = _ from hv] at hpv
   injection hpv with a1 a2 a3
   omega
  | wh i =>
   simp only [viewB] at hvb
   split at hvb
   ·rename_i o hl
    obtain ⟨h1, h2⟩ := liveS_ok hl
    obtain ⟨⟨e1, e2, e3⟩, _⟩ := (hp i o h1).read (nd h2)
    split at hvb
    ·rename_i hs hcs
     rw [show v = _ from hv] at hpv
     injection hpv with a1 a2 a3
     refine ⟨i, o, by simp [idA], h1, ?_⟩
     have hkd : o.kd ≠ .dp := fun hk => by
      have hr := hp i o h1
      unfold objR at hr
      simp only [hk] at hr
      unfold DpR at hr
      rw [hcs] at hr
      exact hr
     unfold objAt
     rcases h2 with ⟨b, h2⟩ | h2 | h2
     ·simp only [h2]; exact ⟨by rw [e1, hs]; omega, ad, a1.trans hA, rfl⟩
     ·simp only [h2]; exact ⟨ad, a1.trans hA, rfl⟩
     ·exact absurd h2 hkd
    ·cases hvb
   ·cases hvb
  | sl i lo n =>
   simp only [viewB] at hvb
   split at hvb
   ·rename_i o hl
    obtain ⟨h1, h2⟩ := liveS_ok hl
    obtain ⟨⟨e1, e2, e3⟩, _⟩ := (hp i o h1).read (nd h2)
    split at hvb
    ·rename_i hs hcs
     obtain ⟨k1, A, c, hve, k2, k3, k4, k5⟩ := hv
     rw [hve] at hpv
     injection hpv with a1 a2 a3
     have k6 := k5 (by omega)
     rw [a1, hA] at k6
     cases hA0 : (ρ i).A with
     | none => rw [hA0] at k6; cases k6
     | some ad0 =>
      rw [hA0] at k6
      injection k6 with k6
      refine ⟨i, o, by simp [idA], h1, ?_⟩
      have hkd : o.kd ≠ .dp := fun hk => by
       have hr := hp i o h1
       unfold objR at hr
       simp only [hk] at hr
       unfold DpR at hr
       rw [hcs] at hr
       exact hr
      have hb : ad0.block = ad.block := by rw [k6, block_add]
      unfold objAt
      rcases h2 with ⟨b, h2⟩ | h2 | h2
      ·simp only [h2]; exact ⟨by rw [e1, hs]; omega, ad0, hA0, hb⟩
      ·simp only [h2]; exact ⟨ad0, hA0, hb⟩
      ·exact absurd h2 hkd
    ·cases hvb
   ·cases hvb
  | dv i q =>
   simp only [viewB] at hvb
   split at hvb
   ·rename_i e t hd
    change List UInt8 at t
    obtain ⟨c, f, hc, A, cap, k1, k2, k3, k4, k5, k6⟩ := dvD_ok hp hd hv.2.1
    have hve : v = .slice A t.length cap := by rw [hv.1, ← hc]; exact k1
    rw [hve] at hpv
    injection hpv with a1 a2 a3
    have h7 := k5 ad (a1.trans hA) (by omega)
    unfold dvD at hd
    split at hd
    ·cases hd
    ·rename_i o ho
     split at hd
     ·rename_i x' l' hk hcs
      refine ⟨i, o, by simp [idA], ho, ?_⟩
      unfold objAt
      simp only [hk]; exact h7
     ·cases hd
   ·cases hvb
  | _ => cases hvb
 | _ => cases h
theorem HM_b {mm : Bool} (e : TypeId) {K : List UInt8 → CtA} (h : ∀ l, HOM false P f (K l) (az ++ [kH os.length]) (os ++ [ob e l])) : HOM mm P f (cmb K) az os := by
 intro args H g av up objs gs ks hF hg ρ w vals hp hs ha ps v0 hI
 cases args with
 | nil => cases hF
 | cons x xs =>
  simp only [cmb] at hF
  split at hF
  ·rename_i l hx hdj0
   have hdj := disj_ok hdj0
   obtain ⟨v, vs, rfl, hv, ha⟩ := F2.inv ha
   obtain ⟨p, hpv, hpo⟩ := aB_ok hp hx hv e
   have hat : ∀ g, objAt p (ob e l) g → ∃ i o', i ∉ gs ++ ks ∧ H[i]? = some o' ∧ objAt (ρ i) o' g := fun g hg => by
    obtain ⟨hn, ad, hA, rfl⟩ := hg
    obtain ⟨i, o', h1, h2, h3⟩ := aB_at hp hx hv hpv (Nat.pos_of_ne_zero fun e => hn (by rw [e, Nat.zero_mul])) hA
    exact ⟨i, o', hdj i h1, h2, h3⟩
   have hpart : ∀ {j : Nat} {o : Oj} {q : Pl}, (os ++ [ob e l])[j]? = some o → (ps ++ [p])[j]? = some q → (j < os.length ∧ os[j]? = some o ∧ ps[j]? = some q) ∨ (j = os.length ∧ o = ob e l ∧ q = p) := by
    intro j o q hoj hpj
    by_cases hj : j < os.length
    ·rw [List.getElem?_append_left hj] at hoj
     rw [List.getElem?_append_left (by rw [← hI.len]; exact hj)] at hpj
     exact .inl ⟨hj, hoj, hpj⟩
    ·have hj2 : j = os.length := by have := (List.getElem?_eq_some_iff.1 hoj).1; simp at this; omega
     subst hj2
     rw [List.getElem?_append_right (Nat.le_refl _), Nat.sub_self] at hoj
     rw [hI.len, List.getElem?_append_right (Nat.le_refl _), Nat.sub_self] at hpj
     simp only [List.getElem?_cons_zero, Option.some.injEq] at hoj hpj
     exact .inr ⟨rfl, hoj.symm, hpj.symm⟩
   have := h l xs H g av up objs gs ks hF hg ρ w vs hp hs ha (ps ++ [p]) (v0 ++ [v]) ⟨(fun h => nomatch h), by rw [List.length_append, List.length_append, hI.len]; rfl, fun ρ' hk => ?_, fun j o q g hoj hpj hg => ?_, fun j k x y q q' g hjk hx' hy' hp' hq' hox hat1 hat2 => ?_, fun q i hq => ?_, hI.ina, hI.nod⟩
   ·rw [List.append_assoc] at this; exact this
   ·obtain ⟨v1, v2⟩ := hI.val ρ' (Pat.left hk)
    have hr := Pat.right hk hI.len 0 p rfl
    rw [Nat.zero_add, Nat.add_zero] at hr
    refine ⟨fun j o q hoj hpj => ?_, F2.append v2 (F2.cons ?_ F2.nil)⟩
    ·rcases hpart hoj hpj with ⟨_, h1, h2⟩ | ⟨_, rfl, rfl⟩
     ·exact v1 j o q h1 h2
     ·exact hpo ρ'
    ·show v = _
     rw [hr]; exact hpv
   ·rcases hpart hoj hpj with ⟨_, h1, h2⟩ | ⟨_, rfl, rfl⟩
    ·exact hI.own j o q g h1 h2 hg
    ·exact .inr ⟨rfl, rfl, hat g hg⟩
   ·rcases hpart hx' hp' with ⟨_, h1, h2⟩ | ⟨_, rfl, rfl⟩
    ·rcases hpart hy' hq' with ⟨_, h3, h4⟩ | ⟨_, rfl, rfl⟩
     ·exact hI.sep j k x y q q' g hjk h1 h3 h2 h4 hox hat1 hat2
     ·rcases hI.own j x q g h1 h2 hat1 with ⟨_, i1, o1, k1, k2, k3, k4⟩ | ⟨k1, _⟩
      ·obtain ⟨i2, o2, m1, m2, m3⟩ := hat g hat2
       exact hs i1 i2 o1 o2 g (fun e => m1 (e ▸ k1)) k2 m2 k3 k4 m3
      ·rw [hox] at k1; cases k1
    ·cases hox
   ·obtain ⟨k, o, o', h1, h2, h3, h4⟩ := hI.gho q i hq
    exact ⟨k, o, o', by rw [List.getElem?_append_left (List.getElem?_eq_some_iff.1 h1).1]; exact h1, by rw [List.getElem?_append_left (List.getElem?_eq_some_iff.1 h2).1]; exact h2, by rw [List.getElem?_append_left (List.getElem?_eq_some_iff.1 h3).1]; exact h3, h4⟩
  ·cases hF
end
def dnC (nb : Nat) : Cl → Cl
 | .wh i => .wh (i - nb)
 | .sl i lo n => .sl (i - nb) lo n
 | .pt i off => .pt (i - nb) off
 | .dv i p => .dv (i - nb) p
 | .dq i p k f sz => .dq (i - nb) p k f sz
 | .fp f i off => .fp f (i - nb) off
 | .pre i n => .pre (i - nb) n
 | c => c
def dnL (nb : Nat) : List Cl → List Cl
 | [] => []
 | c :: l => dnC nb c :: dnL nb l
def dnX (nb : Nat) : Cs → Cs
 | .c l => .c (dnL nb l)
 | cs => cs
def dn1 (nb : Nat) : A1 → A1
 | .c x => .c (dnC nb x)
 | .g n cs => .g n (dnX nb cs)
def dn1s (nb : Nat) : List A1 → List A1
 | [] => []
 | c :: l => dn1 nb c :: dn1s nb l
def dnA (nb : Nat) : AV → AV
 | .c x => .c (dnC nb x)
 | .g n cs => .g n (dnX nb cs)
 | .t xs => .t (dn1s nb xs)
def dnH (nb : Nat) : Hp → Hp
 | [] => []
 | o :: l => ⟨o.kd, o.e, o.sz, o.n, dnX nb o.cs⟩ :: dnH nb l
def geQ (nb : Nat) (i : Nat) : Bool := Nat.ble nb i
def geH (nb : Nat) : Hp → Bool
 | [] => true
 | o :: l => pX (geQ nb) o.cs && geH nb l
section
variable {ρ : Pls} {nb : Nat}
abbrev lowP (ρ : Pls) (nb : Nat) : Pls := fun i => ρ (nb + i)
theorem low_at {i : Nat} (h : geQ nb i = true) : lowP ρ nb (i - nb) = ρ i := by
 have : nb ≤ i := Nat.le_of_ble_eq_true h
 show ρ (nb + (i - nb)) = _
 rw [Nat.add_sub_cancel' this]
theorem dnC_ok {c : Cl} (h : pC (geQ nb) c = true) {v : Value} (hv : clR ρ c v) : clR (lowP ρ nb) (dnC nb c) v := by
 cases c with
 | s x => exact hv
 | nils => exact hv
 | junk => exact hv
 | wh i => simp only [dnC, clR, low_at (ρ := ρ) (show geQ nb i = true from h)]; exact hv
 | sl i lo n => simp only [dnC, clR, low_at (ρ := ρ) (show geQ nb i = true from h)]; exact hv
 | pt i off => simp only [dnC, clR, low_at (ρ := ρ) (show geQ nb i = true from h)]; exact hv
 | dv i p => simp only [dnC, clR, low_at (ρ := ρ) (show geQ nb i = true from h)]; exact hv
 | dq i p k f sz => simp only [dnC, clR, low_at (ρ := ρ) (show geQ nb i = true from h)]; exact hv
 | fp f i off => simp only [dnC, clR, low_at (ρ := ρ) (show geQ nb i = true from h)]; exact hv
 | pre i n => simp only [dnC, clR, low_at (ρ := ρ) (show geQ nb i = true from h)]; exact hv
theorem dnL_ok : ∀ {l : List Cl}, pL (geQ nb) l = true → ∀ {vs : List Value}, F2 (clR ρ) l vs → F2 (clR (lowP ρ nb)) (dnL nb l) vs
 | [], _, vs, hv => by rw [hv.unnil]; exact F2.nil
 | c :: l, h, vs, hv => by
  simp only [pL, Bool.and_eq_true] at h
  obtain ⟨v, vs, rfl, h1, h2⟩ := hv.uncons
  exact F2.cons (dnC_ok h.1 h1) (dnL_ok h.2 h2)
theorem dnX_ok {cs : Cs} (h : pX (geQ nb) cs = true) {vs : List Value} (hv : csR ρ cs vs) : csR (lowP ρ nb) (dnX nb cs) vs := by
 cases cs with
 | c l => exact dnL_ok h hv
 | b l => exact csR_b.2 (csR_b.1 hv)
 | w l => exact csR_w.2 (csR_w.1 hv)
 | q l => exact csR_q.2 (csR_q.1 hv)
 | z l => exact csR_z.2 (csR_z.1 hv)
 | d x l => exact csR_d.2 (csR_d.1 hv)
theorem dn1_ok {x : A1} (h : p1 (geQ nb) x = true) {v : Value} (hv : a1R ρ x v) : a1R (lowP ρ nb) (dn1 nb x) v := by
 cases x with
 | c x => exact dnC_ok h hv
 | g n cs => obtain ⟨vs, h1, h2⟩ := hv; exact ⟨vs, dnX_ok h h1, h2⟩
theorem dn1s_ok : ∀ {xs : List A1}, p1s (geQ nb) xs = true → ∀ {vs : List Value}, F2 (a1R ρ) xs vs → F2 (a1R (lowP ρ nb)) (dn1s nb xs) vs
 | [], _, vs, hv => by rw [hv.unnil]; exact F2.nil
 | x :: xs, h, vs, hv => by
  simp only [p1s, Bool.and_eq_true] at h
  obtain ⟨v, vs, rfl, h1, h2⟩ := hv.uncons
  exact F2.cons (dn1_ok h.1 h1) (dn1s_ok h.2 h2)
theorem dnA_ok {x : AV} (h : pA (geQ nb) x = true) {v : Value} (hv : avR ρ x v) : avR (lowP ρ nb) (dnA nb x) v := by
 cases x with
 | c x => exact dnC_ok h hv
 | g n cs => obtain ⟨vs, h1, h2⟩ := hv; exact ⟨vs, dnX_ok h h1, h2⟩
 | t xs => obtain ⟨vs, h1, h2⟩ := hv; exact ⟨vs, dn1s_ok h h1, h2⟩
theorem dnX_len (nb : Nat) (cs : Cs) : (dnX nb cs).cl.length = cs.cl.length := by
 cases cs with
 | c l =>
  show (dnL nb l).length = l.length
  induction l with
  | nil => rfl
  | cons c l ih => simp [dnL, ih]
 | _ => rfl
theorem dnH_at : ∀ {H : Hp} {k : Nat} {o : Oj}, (dnH nb H)[k]? = some o → ∃ o', H[k]? = some o' ∧ o = ⟨o'.kd, o'.e, o'.sz, o'.n, dnX nb o'.cs⟩
 | [], k, o, h => by simp [dnH] at h
 | x :: H, k, o, h => by
  cases k with
  | zero => simp [dnH] at h; exact ⟨x, rfl, h.symm⟩
  | succ k => simpa [dnH] using dnH_at (H := H) (k := k) (by simpa [dnH] using h)
theorem dnH_len : ∀ (H : Hp), (dnH nb H).length = H.length
 | [] => rfl
 | x :: H => by simp [dnH, dnH_len H]
theorem geH_ok : ∀ {H : Hp}, geH nb H = true → ∀ (i : Nat) (o : Oj), H[i]? = some o → pX (geQ nb) o.cs = true
 | [], _, i, o, h => by simp at h
 | x :: l, h, i, o, ho => by
  simp only [geH, Bool.and_eq_true] at h
  cases i with
  | zero => simp at ho; subst ho; exact h.1
  | succ i => exact geH_ok h.2 i o (by simpa using ho)
end
theorem objR_re {ρ ρ' : Pls} {w : World} {p : Pl} {o : Oj} {cs : Cs} (hc : ∀ vs, csR ρ o.cs vs → csR ρ' cs vs) (hl : cs.cl.length = o.cs.cl.length) (hkd : o.kd ≠ .dp) (hr : objR ρ w p o) : objR ρ' w p ⟨o.kd, o.e, o.sz, o.n, cs⟩ := by
 unfold objR at hr ⊢
 cases hk : o.kd with
 | dead => exact True.intro
 | ro fs => simp only [hk] at hr ⊢; obtain ⟨⟨e1, e2, e3⟩, g1, vs, h, hA⟩ := hr; exact ⟨⟨e1, e2, by rw [hl]; exact e3⟩, g1, vs, hc vs h, hA⟩
 | row => simp only [hk] at hr ⊢; obtain ⟨⟨e1, e2, e3⟩, vs, h, hA⟩ := hr; exact ⟨⟨e1, e2, by rw [hl]; exact e3⟩, vs, hc vs h, hA⟩
 | blk => simp only [hk] at hr ⊢; obtain ⟨⟨e1, e2, e3⟩, b, vs, hA, h, hB⟩ := hr; exact ⟨⟨e1, e2, by rw [hl]; exact e3⟩, b, vs, hA, hc vs h, hB⟩
 | dp => exact absurd hk hkd
def newH : Hp → Bool
 | [] => true
 | o :: l => (match o.kd with | .row | .blk | .dead | .ro true => true | _ => false) && newH l
theorem newH_ok : ∀ {H : Hp}, newH H = true → ∀ (i : Nat) (o : Oj), H[i]? = some o → o.kd ≠ .dp ∧ (o.kd = .dead ∨ o.fsh = true)
 | [], _, i, o, h => by simp at h
 | x :: l, h, i, o, ho => by
  simp only [newH, Bool.and_eq_true] at h
  cases i with
  | zero =>
   simp at ho; subst ho
   have h1 := h.1
   unfold Oj.fsh
   cases hk : x.kd with
   | ro b => cases b with
    | true => exact ⟨by simp, .inr rfl⟩
    | false => rw [hk] at h1; cases h1
   | row => exact ⟨by simp, .inr rfl⟩
   | blk => exact ⟨by simp, .inr rfl⟩
   | dead => exact ⟨by simp, .inl rfl⟩
   | dp => rw [hk] at h1; cases h1
  | succ i => exact newH_ok h.2 i o (by simpa using ho)
def ghl : Nat → List AV → Fr
 | _, [] => []
 | q, x :: xs => (1000000 + q, x) :: ghl (q + 1) xs
def isGh : Nat → Fr → Bool
 | _, [] => true
 | q, (t, x) :: r => Nat.beq t (1000000 + q) && (match x with | .c (.pt i 0) => Nat.beq i q | _ => false) && isGh (q + 1) r
theorem isGh_ok : ∀ {gl : Fr} {q : Nat}, isGh q gl = true → ∀ k, k < gl.length → gl.lookup (1000000 + (q + k)) = some (kP (q + k) 0)
 | [], _, _, k, h => by simp at h
 | (t, x) :: r, q, hg, k, hk => by
  simp only [isGh, Bool.and_eq_true] at hg
  have ht := Nat.eq_of_beq_eq_true hg.1.1
  have hx : x = kP q 0 := by
   have := hg.1.2
   split at this
   ·rename_i i; rw [Nat.eq_of_beq_eq_true this]
   ·cases this
  subst ht; subst hx
  cases k with
  | zero => simp
  | succ k =>
   rw [List.lookup_cons]
   have e : (1000000 + (q + (k + 1)) == 1000000 + q) = false := by rw [beq_eq_false_iff_ne]; omega
   rw [e]
   have := isGh_ok hg.2 k (by simpa using hk)
   rw [show q + 1 + k = q + (k + 1) by omega] at this
   exact this
theorem ghl_look : ∀ {xs : List AV} {q t : Nat} {x : AV}, (ghl q xs).lookup t = some x → ∃ k, t = 1000000 + (q + k) ∧ xs[k]? = some x
 | [], q, t, x, h => by simp [ghl] at h
 | y :: ys, q, t, x, h => by
  simp only [ghl, List.lookup_cons] at h
  split at h
  ·rename_i e
   have : t = 1000000 + q := by simpa using e
   injection h with h; subst h
   exact ⟨0, this, rfl⟩
  ·obtain ⟨k, h1, h2⟩ := ghl_look h
   exact ⟨k + 1, by omega, by simpa using h2⟩
def blkH : Hp → Bool
 | [] => true
 | o :: l => (match o.kd with | .blk => true | _ => false) && blkH l
theorem blkH_ok : ∀ {H : Hp}, blkH H = true → ∀ (i : Nat) (o : Oj), H[i]? = some o → o.kd = .blk
 | [], _, i, o, h => by simp at h
 | x :: l, h, i, o, ho => by
  simp only [blkH, Bool.and_eq_true] at h
  cases i with
  | zero =>
   simp at ho; subst ho
   have := h.1
   split at this
   ·assumption
   ·cases this
  | succ i => exact blkH_ok h.2 i o (by simpa using ho)
def retM (T : Tab) (s : S) (rs : List ResultVar) (objs : List Nat) (nb : Nat) : Option (AV × Hp × Hp) := match resA T s rs with
 | some av => (match keep [0] objs ⟨[(0, av)], s.gl, s.H⟩ with
  | some ⟨[(0, x)], gl, H⟩ => (match isGh 0 gl && (Nat.beq gl.length nb && (pA (geQ nb) x && (geH nb H && (blkH (H.take nb) && (newH (H.drop nb) && Nat.ble nb H.length))))), ltA (H.length - nb) (dnA nb x) && ltH (H.length - nb) (dnH nb H) with
   | true, true => some (dnA nb x, dnH nb (H.take nb), dnH nb (H.drop nb))
   | _, _ => none)
  | _ => none)
 | none => none
abbrev deadO : Oj := ⟨.dead, 0, 0, 0, .c []⟩
def cmR (gsP : Prop) (x : AV) (G H' : Hp) : CtA := fun args H gs ks => match args, decide (gs.length = G.length) with
 | [], true => some ([gsP], shA H.length x, gs.zip (shH H.length G) ++ ks.map (fun i => (i, deadO)), shH H.length H')
 | _, _ => none
def chkG (az : List AV) (os : Hp) : Nat → Hp → Bool
 | _, [] => true
 | q, o :: G => (match az[q]? with
  | some (.c (.pt k 0)) => (match os[k]? with | some o0 => Nat.beq o0.n o.n && Nat.beq o0.sz o.sz | none => false)
  | _ => false) && chkG az os (q + 1) G
theorem chkG_ok {az : List AV} {os : Hp} : ∀ {G : Hp} {q : Nat}, chkG az os q G = true → ∀ (j k : Nat) (o o0 : Oj), G[j]? = some o → az[q + j]? = some (kP k 0) → os[k]? = some o0 → o0.n = o.n ∧ o0.sz = o.sz
 | [], _, _, j, k, o, o0, h, _, _ => by simp at h
 | x :: G, q, hc, j, k, o, o0, h, ha, ho => by
  simp only [chkG, Bool.and_eq_true] at hc
  cases j with
  | zero =>
   simp only [List.getElem?_cons_zero, Option.some.injEq] at h; subst h
   rw [Nat.add_zero] at ha
   have h1 := hc.1
   rw [ha] at h1
   simp only [ho, Bool.and_eq_true] at h1
   exact ⟨Nat.eq_of_beq_eq_true h1.1, Nat.eq_of_beq_eq_true h1.2⟩
  | succ j => exact chkG_ok hc.2 j k o o0 (by simpa using h) (by rw [show q + 1 + j = q + (j + 1) by omega]; exact ha) ho
section
variable {P : Program} {f : FuncId} {az : List AV} {os : Hp} {T : Tab}
theorem calls_WB {bs : Bs} {w : World} {f : FuncId} {fn : Func} {c : Code} {vals : List Value} {s0 : S} {n : Nat} (hf : P.funcs[f]? = some fn) (hb : fn.body = some c) (hn : fn.ntmps = n)
  (h0 : Rel n bs w s0 { tmps := vals.toArray ++ Array.replicate (n - vals.toArray.size) undef, defers := [] } w) {Q : Exit → S → Prop} (hW : W P n bs w c s0 Q) {R : Value → World → Prop}
  (hQ : ∀ e s', Q e s' → (e = .ret ∨ e = .normal) ∧ ∀ a' w', Rel n bs w s' a' w' → ∃ v, (results fn a'.tmps).run P w' = .ok v w' ∧ R v w') : Calls P f vals.toArray w (Ret R) := by
 refine calls_of_wp hf hb ?_
 rw [hn]
 refine Go.wp_mono (hW _ _ h0) fun e a' w' ⟨s', hq, hr⟩ => ?_
 obtain ⟨he, hv⟩ := hQ e s' hq
 obtain ⟨v, h1, h2⟩ := hv a' w' hr
 rcases he with rfl | rfl
 ·exact ⟨hr.dfr, v, h1, v, rfl, h2⟩
 ·exact ⟨hr.dfr, v, h1, v, rfl, h2⟩
theorem args0_look : ∀ {xs : List AV} {k t : Nat} {x : AV}, (args0 k xs).lookup t = some x → k ≤ t ∧ xs[t - k]? = some x
 | [], k, t, x, h => by simp [args0] at h
 | y :: ys, k, t, x, h => by
  simp only [args0, List.lookup_cons] at h
  split at h
  ·rename_i e
   have : t = k := by simpa using e
   subst this
   injection h with h; subst h
   exact ⟨Nat.le_refl _, by simp⟩
  ·obtain ⟨h1, h2⟩ := args0_look h
   refine ⟨by omega, ?_⟩
   rw [show t - k = (t - (k + 1)) + 1 by omega]
   simpa using h2
theorem zip_in {gs : List Nat} {G : Hp} {ks : List Nat} {i : Nat} {o : Oj} (h : (i, o) ∈ gs.zip G ++ ks.map (fun i => (i, deadO))) : (∃ q : Nat, gs[q]? = some i ∧ G[q]? = some o) ∨ (i ∈ ks ∧ o = deadO) := by
 rcases List.mem_append.1 h with h | h
 ·obtain ⟨q, hq⟩ := List.mem_iff_getElem?.1 h
  rw [List.getElem?_zip_eq_some] at hq
  exact .inl ⟨q, hq⟩
 ·obtain ⟨j, hj, e⟩ := List.mem_map.1 h
  injection e with e1 e2; subst e1; subst e2
  exact .inr ⟨hj, rfl⟩
theorem HM_0 {mm : Bool} (hT : TabOk P T) (R : S) (rs : List ResultVar) (keepl : List Nat) (n nb : Nat) {fn : Func} {c : Code} {gsP : Prop} {x : AV} {G H' : Hp} (hf : P.funcs[f]? = some fn)
  (hW : ∀ (w : World) (bs : Bs), gsP → W P n bs w c ⟨args0 0 az, ghl 0 (az.take nb), os⟩ (fun e s => (e = .ret ∨ e = .normal) ∧ s = R))
  (hb : fn.body = some c := by rfl) (hn : fn.ntmps = n := by rfl) (hres : fn.results = rs.toArray := by rfl) (hr : retM T R rs keepl nb = some (x, G, H') := by kernel_rfl) (hl : Nat.ble az.length n = true := by kernel_rfl) (hck : chkG az os 0 G = true := by kernel_rfl) :
  HOM mm P f (cmR gsP x G H') az os := by
 intro args H g av up objs gs ks hF hg ρ w vals hp hs ha ps v0 hI
 unfold cmR at hF
 split at hF
 ·rename_i hgl
  simp only [decide_eq_true_eq] at hgl
  injection hF with hF; simp only [Prod.mk.injEq] at hF; obtain ⟨rfl, rfl, rfl, rfl⟩ := hF
  obtain rfl := F2.inv0 ha
  rw [List.append_nil]
  generalize hup : gs.zip (shH H.length G) ++ ks.map (fun i => (i, deadO)) = up
  have hGl : (shH H.length G).length = gs.length := by rw [shH_len, hgl]
  have inUp : ∀ i, i ∈ gs ++ ks → ∃ o', (i, o') ∈ up := fun i hi => by
   rw [← hup]
   rcases List.mem_append.1 hi with hi | hi
   ·obtain ⟨q, hq⟩ := List.mem_iff_getElem?.1 hi
    have hlt : q < (shH H.length G).length := by rw [hGl]; exact (List.getElem?_eq_some_iff.1 hq).1
    exact ⟨(shH H.length G)[q], List.mem_append_left _ (List.mem_iff_getElem?.2 ⟨q, List.getElem?_zip_eq_some.2 ⟨hq, List.getElem?_eq_getElem hlt⟩⟩)⟩
   ·exact ⟨deadO, List.mem_append_right _ (List.mem_map.2 ⟨i, hi, rfl⟩)⟩
  let bs : Bs := ⟨consB ρ H up, fun q => v0.getD q undef⟩
  obtain ⟨f0, hv⟩ := hI.val (plL ps) (fun j p hj => by rw [Nat.zero_add]; unfold plL; rw [hj])
  have hobj : ∀ (i : Nat) (o : Oj), os[i]? = some o → ∃ p, ps[i]? = some p ∧ plL ps i = p := fun i o ho => by
   have : i < ps.length := by rw [← hI.len]; exact (List.getElem?_eq_some_iff.1 ho).1
   exact ⟨ps[i], List.getElem?_eq_getElem this, by unfold plL; rw [List.getElem?_eq_getElem this]⟩
  have h0 : Rel n bs w ⟨args0 0 az, ghl 0 (az.take nb), os⟩ { tmps := v0.toArray ++ Array.replicate (n - v0.toArray.size) undef, defers := [] } w := by
   have hvl : v0.length ≤ n := by rw [← hv.1]; exact Nat.le_of_ble_eq_true hl
   refine ⟨rfl, by simp; omega, plL ps, ?_, fun t y hy => ?_, fun i o ho => ?_, fun i j a b g hij hx' hy' hox hat hat2 => ?_, fun i o g ho hfs hat => ?_, Kp.refl _ _⟩
   ·intro t y hy
    obtain ⟨_, h1⟩ := args0_look hy
    obtain ⟨v, hv1, hv2⟩ := hv.at (show az[t]? = some y by simpa using h1)
    have hlt := (List.getElem?_eq_some_iff.1 hv1).1
    have : (v0.toArray ++ Array.replicate (n - v0.toArray.size) undef).getD t undef = v := by
     rw [Array.getD_eq_getD_getElem?, Array.getElem?_append_left (by simpa using hlt)]
     simp [hv1]
    rw [this]; exact hv2
   ·obtain ⟨k, rfl, hk⟩ := ghl_look hy
    rw [List.getElem?_take] at hk
    split at hk
    ·obtain ⟨v, hv1, hv2⟩ := hv.at hk
     unfold gvOf
     rw [if_neg (by omega)]
     show avR _ y (v0.getD (1000000 + (0 + k) - 1000000) undef)
     rw [show 1000000 + (0 + k) - 1000000 = k by omega, List.getD_eq_getElem?_getD, hv1]
     exact hv2
    ·cases hk
   ·obtain ⟨p, h1, h2⟩ := hobj i o ho
    show objR _ _ (plL ps i) o
    rw [h2]; exact f0 i o p ho h1
   ·obtain ⟨p, h1, h2⟩ := hobj i a hx'
    obtain ⟨q, h3, h4⟩ := hobj j b hy'
    have hat' : objAt (plL ps i) a g := hat
    have hat2' : objAt (plL ps j) b g := hat2
    rw [h2] at hat'
    rw [h4] at hat2'
    exact hI.sep i j a b p q g hij hx' hy' h1 h3 hox hat' hat2'
   ·obtain ⟨p, h1, h2⟩ := hobj i o ho
    have hat' : objAt (plL ps i) o g := hat
    rw [h2] at hat'
    rcases hI.own i o p g ho h1 hat' with ⟨_, i', o', k1, k2, k3, k4⟩ | ⟨_, k1, _⟩
    ·obtain ⟨o2, k5⟩ := inUp i' k1
     exact .inr ⟨i', o2, o', k5, k2, k3, k4⟩
    ·rw [hfs] at k1; cases k1
  have hgP : gsP := by simpa [allP] using hg
  refine calls_WB hf hb hn h0 (hW w bs hgP) ?_
  rintro e s' ⟨he, rfl⟩
  refine ⟨he, fun a' w' hR => ?_⟩
  -- the end
  obtain ⟨_, _, ρ1, hr1⟩ := hR
  unfold retM at hr
  split at hr
  ·rename_i av0 hav
   obtain ⟨v, g1, g2⟩ := resA_ok hT hr1 hres hav
   split at hr
   ·rename_i y gl Hk hkeep
    split at hr
    ·rename_i hc1 hc2
     simp only [Bool.and_eq_true] at hc1 hc2
     obtain ⟨c1, c2, c3, c4, c5, c6, c7⟩ := hc1
     obtain ⟨c8, c9⟩ := hc2
     injection hr with hr; simp only [Prod.mk.injEq] at hr; obtain ⟨rfl, rfl, rfl⟩ := hr
     have hnb : gl.length = nb := Nat.eq_of_beq_eq_true c2
     have hnl : nb ≤ Hk.length := Nat.le_of_ble_eq_true c7
     have hk0 : Rel 1 bs w ⟨[(0, av0)], s'.gl, s'.H⟩ { tmps := #[v], defers := [] } w' := ⟨rfl, rfl, ρ1, fun t z hz => by
      rw [List.lookup_cons] at hz
      split at hz
      ·rename_i e
       have : t = 0 := by simpa using e
       subst this
       injection hz with hz; subst hz; exact g2
      ·simp at hz, hr1.gl, hr1.hp, hr1.sep, hr1.own, hr1.kp⟩
     obtain ⟨_, _, ρR, hr2⟩ := keep_ok hkeep hk0
     have hy : avR ρR y v := hr2.fr 0 y rfl
     have hgs : gs.length = nb := by rw [hgl, dnH_len, List.length_take]; omega
     -- each ghost's object stands where the caller's does
     have hA : ∀ (q i : Nat), gs[q]? = some i → (ρR q).A = (ρ i).A ∧ (∃ ad, (ρ i).A = some ad) := fun q i hq => by
      have hql : q < nb := by rw [← hgs]; exact (List.getElem?_eq_some_iff.1 hq).1
      obtain ⟨k, o, o', h1, h2, h3, _⟩ := hI.gho q i hq
      obtain ⟨u, hu1, hu2⟩ := hv.at h1
      obtain ⟨_, ad, hu3, hu4⟩ := hu2
      have hpk : plL ps k = ρ i := by unfold plL; rw [h3]
      rw [hpk] at hu3
      have hg2 := hr2.gl (1000000 + (0 + q)) _ (isGh_ok c1 q (by rw [hnb]; exact hql))
      unfold gvOf at hg2
      rw [if_neg (by omega)] at hg2
      have hg3 : clR ρR (.pt (0 + q) 0) (v0.getD (1000000 + (0 + q) - 1000000) undef) := hg2
      rw [show 1000000 + (0 + q) - 1000000 = q by omega, List.getD_eq_getElem?_getD, hu1, Nat.zero_add] at hg3
      obtain ⟨_, ad2, hg4, hg5⟩ := hg3
      have z0 : ∀ x : Addr, x.add 0 = x := fun x => by simp [Addr.add]
      have hg6 : u = .pointer (some (ad2.add 0)) := hg5
      rw [hu4, z0, z0] at hg6
      injection hg6 with hg6; injection hg6 with hg6
      exact ⟨by rw [hg4, hu3, hg6], ad, hu3⟩
     let ps2 : List Pl := (List.range (Hk.drop nb).length).map (lowP ρR nb)
     have hat : ∀ (k : Nat), k < (Hk.drop nb).length → ps2[k]? = some (ρR (nb + k)) := fun k hk => by
      have hk2 : k < Hk.length - nb := by simpa using hk
      simp [ps2, hk2]
     have hps : ∀ (k : Nat) (p : Pl), ps2[k]? = some p → p = ρR (nb + k) := fun k p hpk => by
      have hk := (List.getElem?_eq_some_iff.1 hpk).1
      rw [hat k (by simpa [ps2] using hk)] at hpk
      injection hpk with hpk; exact hpk.symm
     have hρ : ∀ i, i < Hk.length - nb → updL ρ H.length ps2 (H.length + i) = lowP ρR nb i := fun i hi => updL_at (hat i (by simpa using hi))
     have hcs : ∀ (j : Nat) (o : Oj), Hk[j]? = some o → o.kd ≠ .dead → ∀ vs, csR ρR o.cs vs → csR (updL ρ H.length ps2) (shX H.length (dnX nb o.cs)) vs := fun j o hj hkd vs hvs => by
      have h1 := dnX_ok (geH_ok c4 j o hj) hvs
      have h2 : (dnH nb Hk)[j]? = some ⟨o.kd, o.e, o.sz, o.n, dnX nb o.cs⟩ := by
       have hlt : j < (dnH nb Hk).length := by rw [dnH_len]; exact (List.getElem?_eq_some_iff.1 hj).1
       obtain ⟨o2, h3, h4⟩ := dnH_at (List.getElem?_eq_getElem hlt)
       rw [hj] at h3; injection h3 with h3; subst h3
       rw [List.getElem?_eq_getElem hlt, h4]
      exact shX_ok hρ (ltH_ok c9 j _ h2 hkd) h1
     have newAt : ∀ {k : Nat} {o : Oj} {p : Pl}, (shH H.length (dnH nb (Hk.drop nb)))[k]? = some o → ps2[k]? = some p → ∃ o0, Hk[nb + k]? = some o0 ∧ o = ⟨o0.kd, o0.e, o0.sz, o0.n, shX H.length (dnX nb o0.cs)⟩ ∧ p = ρR (nb + k) ∧ o0.kd ≠ .dp ∧ (o0.kd = .dead ∨ o0.fsh = true) := by
      intro k o p ho hpk
      obtain ⟨o1, h1, rfl⟩ := shH_at ho
      obtain ⟨o0, h2, rfl⟩ := dnH_at h1
      have h3 := newH_ok c6 k o0 h2
      rw [List.getElem?_drop] at h2
      exact ⟨o0, h2, rfl, hps k p hpk, h3⟩
     let foot : Nat → Nat → Prop := fun i g => ∃ q, gs[q]? = some i ∧ (ρR q).foot g
     let pu : Pls := fun i => ⟨(ρ i).A, (ρ i).n, (ρ i).cap, (ρ i).sz, foot i, (ρ i).gv⟩
     have ghAt : ∀ {q i : Nat} {o : Oj}, gs[q]? = some i → (shH H.length (dnH nb (Hk.take nb)))[q]? = some o → ∃ o0, Hk[q]? = some o0 ∧ o = ⟨o0.kd, o0.e, o0.sz, o0.n, shX H.length (dnX nb o0.cs)⟩ ∧ o0.kd = .blk ∧ (∀ g, objAt (pu i) o g → objAt (ρR q) o0 g) ∧ objR (updL ρ H.length ps2) w' (pu i) o := by
      intro q i o hq ho
      obtain ⟨o1, h1, rfl⟩ := shH_at ho
      obtain ⟨o0, h2, rfl⟩ := dnH_at h1
      have h3 := blkH_ok c5 q o0 h2
      have h1' := h1
      rw [List.getElem?_take] at h2
      split at h2
      ·have hro := hr2.hp q o0 h2
       obtain ⟨hA1, _⟩ := hA q i hq
       obtain ⟨k, oo, o', k1, k2, k3, k4, k5, k6⟩ := hI.gho q i hq
       obtain ⟨m1, m2⟩ := chkG_ok hck q k _ oo h1' (by rw [Nat.zero_add]; exact k1) k2
       obtain ⟨o3, k7, k8⟩ := hI.ina i (List.mem_append_left _ (List.mem_of_getElem? hq))
       rw [k4] at k7; injection k7 with k7; subst k7
       have hrd : (ρ i).sz = o'.sz ∧ (ρ i).n = o'.n := by
        have h5 := (hp i o' k4).read (by intro e; unfold Oj.own at k8; rw [e] at k8; cases k8)
        exact ⟨h5.1.1, h5.1.2.1⟩
       have hro2 := objR_re (hcs q o0 h2 (by rw [h3]; simp)) (by rw [shX_len, dnX_len]) (by rw [h3]; simp) hro
       refine ⟨o0, h2, rfl, h3, fun g hg => ?_, ?_⟩
       ·unfold objAt at hg ⊢
        simp only [h3] at hg ⊢
        obtain ⟨ad, hg1, hg2⟩ := hg
        exact ⟨ad, hA1.trans hg1, hg2⟩
       ·unfold objR at hro2 ⊢
        simp only [h3] at hro2 ⊢
        obtain ⟨⟨e1, e2, e3⟩, b, vs, e4, e5, e6⟩ := hro2
        exact ⟨⟨hrd.1.trans (k6.symm.trans m2), hrd.2.trans (k5.symm.trans m1), e3⟩, b, vs, hA1 ▸ e4, e5, e6⟩
      ·cases h2
     have own1 : ∀ {j : Nat} {o : Oj} {g : Nat}, Hk[j]? = some o → o.fsh = true → objAt (ρR j) o g → w.heap.size ≤ g ∨ consB ρ H up g := fun hj hfs hat => hr2.own _ _ _ hj hfs hat
     refine ⟨v, g1, ⟨hr2.kp.os, hr2.kp.tape, hr2.kp.output, hr2.kp.size, hr2.kp.block⟩, ps2, pu, by simp [ps2, shH_len, dnH_len], fun i o' _ => ⟨rfl, rfl, rfl, rfl, rfl⟩, fun k o p ho hpk => ?_, fun i o' hm => ?_, ?_, fun k o p g ho hpk hat2 => ?_, fun i o' g hm hat2 => ?_, fun k l o o' p p' g hkl ho ho' hpk hpk' hown hat1 hat2 => ?_, fun k o p i o' g ho hpk hm hor hat1 hat2 => ?_, fun i o i' o' g hii hm hm' hown hat1 hat2 => ?_⟩
     ·obtain ⟨o0, h1, rfl, rfl, h2, _⟩ := newAt ho hpk
      by_cases hd : o0.kd = .dead
      ·unfold objR; simp only [hd]
      ·exact objR_re (hcs _ o0 h1 hd) (by rw [shX_len, dnX_len]) h2 (hr2.hp _ o0 h1)
     ·rw [← hup] at hm
      rcases zip_in hm with ⟨q, h1, h2⟩ | ⟨_, rfl⟩
      ·obtain ⟨o0, _, _, _, _, h3⟩ := ghAt h1 h2
       exact h3
      ·unfold objR; exact True.intro
     ·exact shA_ok hρ c8 (dnA_ok c3 hy)
     ·obtain ⟨o0, h1, rfl, rfl, _, h2⟩ := newAt ho hpk
      rcases h2 with hd | h2
      ·unfold objAt at hat2; simp only [hd] at hat2
      ·exact own1 h1 h2 hat2
     ·rw [← hup] at hm
      rcases zip_in hm with ⟨q, h1, h2⟩ | ⟨_, rfl⟩
      ·obtain ⟨o0, h3, rfl, h4, h5, _⟩ := ghAt h1 h2
       exact own1 h3 (by unfold Oj.fsh; rw [h4]) (h5 g hat2)
      ·exact hat2.elim
     ·obtain ⟨o0, h1, rfl, rfl, _, _⟩ := newAt ho hpk
      obtain ⟨o1, h2, rfl, rfl, _, _⟩ := newAt ho' hpk'
      exact hr2.sep _ _ o0 o1 g (fun e => hkl (by omega)) h1 h2 hown hat1 hat2
     ·obtain ⟨o0, h1, rfl, rfl, _, _⟩ := newAt ho hpk
      rw [← hup] at hm
      rcases zip_in hm with ⟨q, h2, h3⟩ | ⟨_, rfl⟩
      ·have hql : q < nb := by rw [← hgs]; exact (List.getElem?_eq_some_iff.1 h2).1
       obtain ⟨o1, h4, rfl, h5, h6, _⟩ := ghAt h2 h3
       exact hr2.sep q (nb + k) o1 o0 g (by omega) h4 h1 (by unfold Oj.own; rw [h5]) (h6 g hat2) hat1
      ·exact hat2
     ·rw [← hup] at hm hm'
      rcases zip_in hm with ⟨q, h2, h3⟩ | ⟨_, rfl⟩
      ·rcases zip_in hm' with ⟨q', h2', h3'⟩ | ⟨_, rfl⟩
       ·obtain ⟨o1, h4, rfl, h5, h6, _⟩ := ghAt h2 h3
        obtain ⟨o2, h4', rfl, h5', h6', _⟩ := ghAt h2' h3'
        refine hr2.sep q q' o1 o2 g (fun e => ?_) h4 h4' (by unfold Oj.own; rw [h5]) (h6 g hat1) (h6' g hat2)
        subst e
        rw [h2] at h2'; injection h2' with h2'; exact hii h2'
       ·exact hat2
      ·cases hown
    ·cases hr
   ·cases hr
  ·cases hr
 ·cases hF
def ctM (F : CtA) : CtM := fun args H => F args H [] []
theorem fnokM {F : CtA} {fn : Func} (hf : P.funcs[f]? = some fn) (h : HOM true P f F [] []) (h1 : ((fn.name == "runtime.NumGoroutine") = false) := by kernel_rfl) (h2 : fn.body.isNone = false := by kernel_rfl) : FnMOk P f (ctM F) :=
 ⟨fun args H g av up objs hF hg ρ w vals hp hs ha => h args H g av up objs [] [] hF hg ρ w vals hp hs ha [] [] ⟨fun _ => rfl, rfl, fun _ _ => ⟨fun j o p hj => by simp at hj, F2.nil⟩, fun j o p g hj => by simp at hj, fun i j a b p q g _ hi => by simp at hi, fun q i hq => by simp at hq, fun i hi => by simp at hi, fun i j k hi => by simp at hi⟩, fn, hf, h1, h2⟩
end
end Go.Sx
end
section
namespace Go.Proofs.Ytobfglafchoipaa
open Go.RowKit Go.Ch Go.Sx
def tabL_npa : List (TypeId × Ti) := [(5, ⟨.int .u8, 1, 1, true, some [.int .u8]⟩),
 (9, ⟨.str, 1, 16, true, some [.str]⟩),
 (22, ⟨.sl 5, 1, 24, false, some [.nils]⟩),
 (27, ⟨.sl 47, 1, 24, false, some [.nils]⟩),
 (44, ⟨.sl 92, 1, 24, false, some [.nils]⟩),
 (46, ⟨.st [(44, 0), (5, 1), (22, 2)], 3, 56, false, some [.nils, .int .u8, .nils]⟩),
 (47, ⟨.sl 46, 1, 24, false, some [.nils]⟩),
 (92, ⟨.int .u32, 1, 4, true, some [.int .u32]⟩)]
def tab_npa : Tab := fun t => (tabL_npa).lookup t
theorem tabE_npa : (tabL_npa.map fun p => tiOf Try.prog p.1) = tabL_npa.map fun p => some p.2 := by kernel_rfl
theorem tabO_npa : TabOk Try.prog tab_npa := tab_of tabE_npa
def sPlain_j1 (n : Nat) (a0 : List UInt8) (i9_2 : Int) (k_l1 : (List UInt8) → Bool → Int → Option (List UInt8)) (l3_22 : List UInt8) (p4_11 : Bool) : Option (List UInt8) :=
 gd (okI .i64 (i9_2 + 1)) <|
 k_l1 l3_22 p4_11 (i9_2 + 1)
def sPlain_j3 (n : Nat) (a0 : List UInt8) (i9_2 : Int) (l3_23 : List UInt8) (k_l1 : (List UInt8) → Bool → Int → Option (List UInt8)) (b6_17 : UInt8) : Option (List UInt8) :=
 gd (rmB (l3_23.length + 1) 1) <|
 sPlain_j1 n a0 i9_2 k_l1 (l3_23 ++ [b6_17]) false
def sPlain_j2 (n : Nat) (a0 : List UInt8) (i9_2 : Int) (k_l1 : (List UInt8) → Bool → Int → Option (List UInt8)) (l3_23 : List UInt8) : Option (List UInt8) :=
 bif (decide ((65 : UInt8) ≤ (a0.getD i9_2.toNat 0))) then
 bif (decide ((a0.getD i9_2.toNat 0) ≤ (90 : UInt8))) then
 sPlain_j3 n a0 i9_2 l3_23 k_l1 ((a0.getD i9_2.toNat 0) + (32 : UInt8))
 else
 sPlain_j3 n a0 i9_2 l3_23 k_l1 (a0.getD i9_2.toNat 0)
 else
 sPlain_j3 n a0 i9_2 l3_23 k_l1 (a0.getD i9_2.toNat 0)
def sPlain_l1 (n : Nat) (a0 : List UInt8) : Nat → List UInt8 → Bool → Int → Option (List UInt8)
 | 0, _, _, _ => none
 | fu_l1 + 1, l3_17, p4_9, i9_2 =>
 bif (decide (i9_2 < ((a0.length : Nat) : Int))) then
 gd (0 ≤ i9_2) <|
 gd (i9_2 < ((a0.length : Nat) : Int)) <|
 bif ((a0.getD i9_2.toNat 0) == 32) then
 sPlain_j1 n a0 i9_2 (sPlain_l1 n a0 fu_l1) l3_17 true
 else
 bif p4_9 then
 bif (decide ((0 : Int) < ((l3_17.length : Nat) : Int))) then
 gd (rmB (l3_17.length + 1) 1) <|
 sPlain_j2 n a0 i9_2 (sPlain_l1 n a0 fu_l1) (l3_17 ++ [32])
 else
 sPlain_j2 n a0 i9_2 (sPlain_l1 n a0 fu_l1) l3_17
 else
 sPlain_j2 n a0 i9_2 (sPlain_l1 n a0 fu_l1) l3_17
 else
 some l3_17
def sPlain (n : Nat) (a0 : List UInt8) : Option (List UInt8) :=
 sPlain_l1 n a0 n [] false 0
def light_l2 (n : Nat) (a0 : List (List (List UInt32 × (UInt8 × List UInt8)))) (i3_2 : Int) (k_l1 : Int → Option (Bool)) : Nat → Int → Option (Bool)
 | 0, _ => none
 | fu_l2 + 1, i4_8 =>
 gd (0 ≤ i3_2) <|
 gd (i3_2 < ((a0.length : Nat) : Int)) <|
 bif (decide (i4_8 < (((a0.getD i3_2.toNat []).length : Nat) : Int))) then
 gd (0 ≤ i3_2) <|
 gd (i3_2 < ((a0.length : Nat) : Int)) <|
 gd (0 ≤ i4_8) <|
 gd (i4_8 < (((a0.getD i3_2.toNat []).length : Nat) : Int)) <|
 bif (decide ((200 : Int) < (((((a0.getD i3_2.toNat []).getD i4_8.toNat ([], (0, []))).2.2).length : Nat) : Int))) then
 some false
 else
 gd (0 ≤ i3_2) <|
 gd (i3_2 < ((a0.length : Nat) : Int)) <|
 gd (0 ≤ i4_8) <|
 gd (i4_8 < (((a0.getD i3_2.toNat []).length : Nat) : Int)) <|
 bif (decide ((30 : Int) < (((((a0.getD i3_2.toNat []).getD i4_8.toNat ([], (0, []))).1).length : Nat) : Int))) then
 some false
 else
 gd (okI .i64 (i4_8 + 1)) <|
 (light_l2 n a0 i3_2 k_l1 fu_l2) (i4_8 + 1)
 else
 gd (okI .i64 (i3_2 + 1)) <|
 k_l1 (i3_2 + 1)
def light_l1 (n : Nat) (a0 : List (List (List UInt32 × (UInt8 × List UInt8)))) : Nat → Int → Option (Bool)
 | 0, _ => none
 | fu_l1 + 1, i3_2 =>
 bif (decide (i3_2 < ((a0.length : Nat) : Int))) then
 gd (0 ≤ i3_2) <|
 gd (i3_2 < ((a0.length : Nat) : Int)) <|
 bif (decide ((10 : Int) < (((a0.getD i3_2.toNat []).length : Nat) : Int))) then
 some false
 else
 light_l2 n a0 i3_2 (light_l1 n a0 fu_l1) n 0
 else
 some true
def light (n : Nat) (a0 : List (List (List UInt32 × (UInt8 × List UInt8)))) : Option (Bool) :=
 bif (decide ((20 : Int) < ((a0.length : Nat) : Int))) then
 some false
 else
 light_l1 n a0 n 0
def slEq_l1 (n : Nat) (a0 : List UInt32) (a1 : List UInt32) : Nat → Int → Option (Bool)
 | 0, _ => none
 | fu_l1 + 1, i13_2 =>
 bif (decide (i13_2 < ((a0.length : Nat) : Int))) then
 gd (0 ≤ i13_2) <|
 gd (i13_2 < ((a0.length : Nat) : Int)) <|
 gd (0 ≤ i13_2) <|
 gd (i13_2 < ((a1.length : Nat) : Int)) <|
 bif ((a0.getD i13_2.toNat 0) != (a1.getD i13_2.toNat 0)) then
 some false
 else
 gd (okI .i64 (i13_2 + 1)) <|
 (slEq_l1 n a0 a1 fu_l1) (i13_2 + 1)
 else
 some true
def slEq (n : Nat) (a0 : List UInt32) (a1 : List UInt32) : Option (Bool) :=
 bif (((a0.length : Nat) : Int) != ((a1.length : Nat) : Int)) then
 some false
 else
 slEq_l1 n a0 a1 n 0
def byEq (n : Nat) (a0 : List UInt8) (a1 : List UInt8) : Option (Bool) :=
 some (a0 == a1)
def like (n : Nat) (a0_0 : List UInt32) (a0_1 : UInt8) (a0_2 : List UInt8) (a1_0 : List UInt32) (a1_1 : UInt8) (a1_2 : List UInt8) : Option (Bool) :=
 (slEq n a0_0 a1_0).bind fun r9 =>
 bif r9 then
  (sPlain n a0_2).bind fun r13 =>
  (sPlain n a1_2).bind fun r16 =>
  (byEq n r13 r16).bind fun r17 =>
  some r17
 else
  some false
def sPlain_j1_E (a0 : List UInt8) (i9_2 : Int) (l3_22 : List UInt8) (p4_11 : Bool) : S := ⟨[(3, kH 0), (4, kB p4_11), (7, kH 1), (8, kI ((a0.length : Nat) : Int)), (9, kI i9_2)], [], [nb 5 l3_22, ob 5 a0]⟩
abbrev sPlain_j1_P (n : Nat) (a0 : List UInt8) (i9_2 : Int) (k_l1 : (List UInt8) → Bool → Int → Option (List UInt8)) (r : List UInt8) : S → Prop := fun s => ∃ (l3_22 : List UInt8), ∃ (p4_11 : Bool), s = sPlain_j1_E a0 i9_2 l3_22 p4_11 ∧ sPlain_j1 n a0 i9_2 k_l1 l3_22 p4_11 = some r
def sPlain_j3_E (a0 : List UInt8) (i9_2 : Int) (l3_23 : List UInt8) (b6_17 : UInt8) : S := ⟨[(3, kH 0), (4, kB false), (6, kU b6_17), (7, kH 1), (8, kI ((a0.length : Nat) : Int)), (9, kI i9_2)], [], [nb 5 l3_23, ob 5 a0]⟩
abbrev sPlain_j3_P (n : Nat) (a0 : List UInt8) (i9_2 : Int) (l3_23 : List UInt8) (k_l1 : (List UInt8) → Bool → Int → Option (List UInt8)) (r : List UInt8) : S → Prop := fun s => ∃ (b6_17 : UInt8), s = sPlain_j3_E a0 i9_2 l3_23 b6_17 ∧ sPlain_j3 n a0 i9_2 l3_23 k_l1 b6_17 = some r
def sPlain_j2_E (a0 : List UInt8) (i9_2 : Int) (l3_23 : List UInt8) : S := ⟨[(3, kH 0), (6, kU (a0.getD i9_2.toNat 0)), (7, kH 1), (8, kI ((a0.length : Nat) : Int)), (9, kI i9_2)], [], [nb 5 l3_23, ob 5 a0]⟩
abbrev sPlain_j2_P (n : Nat) (a0 : List UInt8) (i9_2 : Int) (k_l1 : (List UInt8) → Bool → Int → Option (List UInt8)) (r : List UInt8) : S → Prop := fun s => ∃ (l3_23 : List UInt8), s = sPlain_j2_E a0 i9_2 l3_23 ∧ sPlain_j2 n a0 i9_2 k_l1 l3_23 = some r
def sPlain_l1_E (a0 : List UInt8) (l3_17 : List UInt8) (p4_9 : Bool) (i9_2 : Int) : S := ⟨[(3, kH 0), (4, kB p4_9), (7, kH 1), (8, kI ((a0.length : Nat) : Int)), (9, kI i9_2)], [], [nb 5 l3_17, ob 5 a0]⟩
abbrev sPlain_l1_P (n : Nat) (a0 : List UInt8) (r : List UInt8) (fu : Nat) : S → Prop := fun s => ∃ (l3_17 : List UInt8), ∃ (p4_9 : Bool), ∃ (i9_2 : Int), s = sPlain_l1_E a0 l3_17 p4_9 i9_2 ∧ sPlain_l1 n a0 fu l3_17 p4_9 i9_2 = some r
def sPlain_R (r : List UInt8) : S := ⟨[(2, kH 0)], [], [nb 5 r]⟩
def sPlain_ct (n : Nat) (r : List UInt8) : Ct := ctc (rB 5).rd fun _ l0 => ct0 fun H => ([sPlain n l0 = some r], shA H.length (kH 0), shH H.length [nb 5 r])
theorem sPlain_ok (n : Nat) (r : List UInt8) : FnOk Try.prog Tr 11 (sPlain_ct n r) := by
 refine fnok Try.func11 ?_
 refine HO_c (rB 5) fun l0 _ => HO_0 tabO_npa (sPlain_R r) [.tmp 2] [0] 40 Try.func11 fun w hG h => ?_
 unfold sPlain at h
 have hT := tabO_npa
 refine Vrs hT [0] ⟨[(0, kH 0)], [], [ob 5 l0]⟩ ?_
 refine Vrs hT [0] ⟨[(0, kH 0), (3, .c (.nils))], [], [ob 5 l0]⟩ ?_
 refine Vrs hT [0] ⟨[(0, kH 0), (3, .c (.nils)), (4, kB false)], [], [ob 5 l0]⟩ ?_
 refine W_seq ?_
 refine Vrs hT [0] ⟨[(3, .c (.nils)), (4, kB false), (7, kH 0), (8, kI ((l0.length : Nat) : Int)), (9, kI 0)], [], [ob 5 l0]⟩ ?_
 refine W_block ?_
 refine Vc [.nil 3 5 1 (.b [])] [1, 0] (sPlain_l1_E l0 [] false 0) (W_lp ((sPlain_l1_P n l0 r)) n ⟨_, _, _, rfl, h⟩ ?_)
 rintro fu_l1 _ ⟨l3_17, p4_9, i9_2, rfl, h⟩
 cases fu_l1 with
 | zero => cases h
 | succ fu_l1 =>
  refine ⟨fu_l1, rfl, ?_⟩
  rw [sPlain_l1] at h
  refine Vrs hT [0, 1] ⟨[(3, kH 0), (4, kB p4_9), (7, kH 1), (8, kI ((l0.length : Nat) : Int)), (9, kI i9_2), (10, kB (decide (i9_2 < ((l0.length : Nat) : Int))))], [], [nb 5 l3_17, ob 5 l0]⟩ ?_
  refine W_seq ?_
  refine Vi ((decide (i9_2 < ((l0.length : Nat) : Int)))) (fun g11 => ?_) (fun g11 => ?_)
  ·replace h := bif_t h g11
   refine Vc [] [0, 1] ⟨[(3, kH 0), (4, kB p4_9), (7, kH 1), (8, kI ((l0.length : Nat) : Int)), (9, kI i9_2)], [], [nb 5 l3_17, ob 5 l0]⟩ (W_skip ?_)
   refine W_join (sPlain_j1_P n l0 i9_2 (sPlain_l1 n l0 fu_l1) r) ?_ ?_
   ·rintro _ ⟨l3_22, p4_11, rfl, h⟩
    unfold sPlain_j1 at h
    obtain ⟨g1, h⟩ := gd_some h
    refine Vg hT fN [] [] [0, 1] (sPlain_l1_E l0 l3_22 p4_11 (i9_2 + 1)) (aP g1 aN) ?_
    exact ⟨_, _, _, rfl, h⟩
   ·refine W_block ?_
    obtain ⟨g2, g3, h⟩ := gd2 h
    refine Vgs hT fN [] [] [0, 1] ⟨[(3, kH 0), (4, kB p4_9), (6, kU (l0.getD i9_2.toNat 0)), (7, kH 1), (8, kI ((l0.length : Nat) : Int)), (9, kI i9_2)], [], [nb 5 l3_17, ob 5 l0]⟩ (aP g2 (aP g3 aN)) ?_
    refine W_join (sPlain_j2_P n l0 i9_2 (sPlain_l1 n l0 fu_l1) r) ?_ ?_
    ·rintro _ ⟨l3_23, rfl, h⟩
     unfold sPlain_j2 at h
     refine Vrs hT [0, 1] ⟨[(3, kH 0), (4, kB false), (6, kU (l0.getD i9_2.toNat 0)), (7, kH 1), (8, kI ((l0.length : Nat) : Int)), (9, kI i9_2)], [], [nb 5 l3_23, ob 5 l0]⟩ ?_
     refine W_join (sPlain_j3_P n l0 i9_2 l3_23 (sPlain_l1 n l0 fu_l1) r) ?_ ?_
     ·rintro _ ⟨b6_17, rfl, h⟩
      unfold sPlain_j3 at h
      obtain ⟨g4, h⟩ := gd_some h
      refine Vg hT fN [] [] [3, 1] (sPlain_j1_E l0 i9_2 (l3_23 ++ [b6_17]) false) (aP g4 aN) ?_
      exact ⟨_, _, rfl, h⟩
     ·refine W_seq ?_
      rcases Bool.eq_false_or_eq_true (decide ((65 : UInt8) ≤ (l0.getD i9_2.toNat 0))) with g5 | g5
      ·replace h := bif_t h g5
       refine Vg hT fN [(2, true)] [] [0, 1] ⟨[(3, kH 0), (4, kB false), (6, kU (l0.getD i9_2.toNat 0)), (7, kH 1), (8, kI ((l0.length : Nat) : Int)), (9, kI i9_2), (31, kB (decide ((l0.getD i9_2.toNat 0) ≤ (90 : UInt8))))], [], [nb 5 l3_23, ob 5 l0]⟩ (aP g5 aN) ?_
       refine Vi ((decide ((l0.getD i9_2.toNat 0) ≤ (90 : UInt8)))) (fun g6 => ?_) (fun g6 => ?_)
       ·replace h := bif_t h g6
        refine Vr hT [0, 1] (sPlain_j3_E l0 i9_2 l3_23 ((l0.getD i9_2.toNat 0) + (32 : UInt8))) ?_
        exact ⟨_, rfl, h⟩
       ·replace h := bif_f h g6
        refine Vc [] [0, 1] (sPlain_j3_E l0 i9_2 l3_23 (l0.getD i9_2.toNat 0)) (W_skip ?_)
        exact ⟨_, rfl, h⟩
      ·replace h := bif_f h g5
       refine Vg hT fN [(2, false)] [] [0, 1] ⟨[(3, kH 0), (4, kB false), (6, kU (l0.getD i9_2.toNat 0)), (7, kH 1), (8, kI ((l0.length : Nat) : Int)), (9, kI i9_2), (31, kB false)], [], [nb 5 l3_23, ob 5 l0]⟩ (aP g5 aN) ?_
       refine Vi (false) (fun hb => by cases hb) (fun _ => ?_)
       refine Vc [] [0, 1] (sPlain_j3_E l0 i9_2 l3_23 (l0.getD i9_2.toNat 0)) (W_skip ?_)
       exact ⟨_, rfl, h⟩
    ·refine W_block ?_
     refine Vrs hT [0, 1] ⟨[(3, kH 0), (4, kB p4_9), (6, kU (l0.getD i9_2.toNat 0)), (7, kH 1), (8, kI ((l0.length : Nat) : Int)), (9, kI i9_2), (13, kB ((l0.getD i9_2.toNat 0) == 32))], [], [nb 5 l3_17, ob 5 l0]⟩ ?_
     refine Vi (((l0.getD i9_2.toNat 0) == 32)) (fun g10 => ?_) (fun g10 => ?_)
     ·replace h := bif_t h g10
      refine Vrs hT [0, 1] ⟨[(3, kH 0), (4, kB true), (7, kH 1), (8, kI ((l0.length : Nat) : Int)), (9, kI i9_2)], [], [nb 5 l3_17, ob 5 l0]⟩ ?_
      refine Vc [] [0, 1] (sPlain_j1_E l0 i9_2 l3_17 true) (W_exit ?_)
      exact ⟨_, _, rfl, h⟩
     ·replace h := bif_f h g10
      refine W_seq ?_
      rcases Bool.eq_false_or_eq_true p4_9 with g7 | g7
      ·replace h := bif_t h g7
       refine Vg hT fN [(1, true)] [] [0, 1] ⟨[(3, kH 0), (6, kU (l0.getD i9_2.toNat 0)), (7, kH 1), (8, kI ((l0.length : Nat) : Int)), (9, kI i9_2), (16, kB (decide ((0 : Int) < ((l3_17.length : Nat) : Int))))], [], [nb 5 l3_17, ob 5 l0]⟩ (aP g7 aN) ?_
       refine Vi ((decide ((0 : Int) < ((l3_17.length : Nat) : Int)))) (fun g9 => ?_) (fun g9 => ?_)
       ·replace h := bif_t h g9
        obtain ⟨g8, h⟩ := gd_some h
        refine Vg hT fN [] [] [3, 1] (sPlain_j2_E l0 i9_2 (l3_17 ++ [32])) (aP g8 aN) ?_
        exact ⟨_, rfl, h⟩
       ·replace h := bif_f h g9
        refine Vc [] [0, 1] (sPlain_j2_E l0 i9_2 l3_17) (W_skip ?_)
        exact ⟨_, rfl, h⟩
      ·replace h := bif_f h g7
       refine Vg hT fN [(1, false)] [] [0, 1] ⟨[(3, kH 0), (6, kU (l0.getD i9_2.toNat 0)), (7, kH 1), (8, kI ((l0.length : Nat) : Int)), (9, kI i9_2), (16, kB false)], [], [nb 5 l3_17, ob 5 l0]⟩ (aP g7 aN) ?_
       refine Vi (false) (fun hb => by cases hb) (fun _ => ?_)
       refine Vc [] [0, 1] (sPlain_j2_E l0 i9_2 l3_17) (W_skip ?_)
       exact ⟨_, rfl, h⟩
  ·replace h := bif_f h g11
   refine Vc [] [0] ⟨[(3, kH 0)], [], [nb 5 l3_17]⟩ (W_exit ?_)
   refine Vrs hT [0] ⟨[(2, kH 0)], [], [nb 5 l3_17]⟩ ?_
   refine Vc [] [0] (sPlain_R l3_17) (W_ret ?_)
   exact ⟨.inl rfl, by cases h; rfl⟩
def light_l2_E (a0 : List (List (List UInt32 × (UInt8 × List UInt8)))) (i3_2 : Int) (i4_8 : Int) : S := ⟨[(0, kH 0), (3, kI i3_2), (4, kI i4_8)], [], [⟨.dp, 47, 1, a0.length, .d (.sl 46 (.pr (.wo 92) (.pr .u8 (.by 5)))) a0⟩]⟩
abbrev light_l2_P (n : Nat) (a0 : List (List (List UInt32 × (UInt8 × List UInt8)))) (i3_2 : Int) (k_l1 : Int → Option (Bool)) (r : Bool) (fu : Nat) : S → Prop := fun s => ∃ (i4_8 : Int), s = light_l2_E a0 i3_2 i4_8 ∧ light_l2 n a0 i3_2 k_l1 fu i4_8 = some r
def light_l1_E (a0 : List (List (List UInt32 × (UInt8 × List UInt8)))) (i3_2 : Int) : S := ⟨[(0, kH 0), (3, kI i3_2)], [], [⟨.dp, 47, 1, a0.length, .d (.sl 46 (.pr (.wo 92) (.pr .u8 (.by 5)))) a0⟩]⟩
abbrev light_l1_P (n : Nat) (a0 : List (List (List UInt32 × (UInt8 × List UInt8)))) (r : Bool) (fu : Nat) : S → Prop := fun s => ∃ (i3_2 : Int), s = light_l1_E a0 i3_2 ∧ light_l1 n a0 fu i3_2 = some r
def light_R (r : Bool) : S := ⟨[(2, kB r)], [], []⟩
def light_ct (n : Nat) (r : Bool) : Ct := ctc (rD 47 (.sl 46 (.pr (.wo 92) (.pr .u8 (.by 5))))).rd fun _ l0 => ct0 fun H => ([light n l0 = some r], shA H.length (kB r), shH H.length [])
theorem light_ok (n : Nat) (r : Bool) : FnOk Try.prog Tr 13 (light_ct n r) := by
 refine fnok Try.func13 ?_
 refine HO_c (rD 47 (.sl 46 (.pr (.wo 92) (.pr .u8 (.by 5))))) fun (l0 : List (List (List UInt32 × (UInt8 × List UInt8)))) _ => HO_0 tabO_npa (light_R r) [.tmp 2] [] 51 Try.func13 fun w hG h => ?_
 unfold light at h
 have hT := tabO_npa
 refine Vrs hT [0] ⟨[(0, kH 0)], [], [⟨.dp, 47, 1, l0.length, .d (.sl 46 (.pr (.wo 92) (.pr .u8 (.by 5)))) l0⟩]⟩ ?_
 refine W_seq ?_
 refine Vrs hT [0] ⟨[(0, kH 0), (7, kB (decide ((20 : Int) < ((l0.length : Nat) : Int))))], [], [⟨.dp, 47, 1, l0.length, .d (.sl 46 (.pr (.wo 92) (.pr .u8 (.by 5)))) l0⟩]⟩ ?_
 refine Vi ((decide ((20 : Int) < ((l0.length : Nat) : Int)))) (fun g20 => ?_) (fun g20 => ?_)
 ·replace h := bif_t h g20
  refine Vrs hT [] ⟨[(2, kB false)], [], []⟩ ?_
  refine Vc [] [] (light_R false) (W_ret ?_)
  exact ⟨.inl rfl, by cases h; rfl⟩
 ·replace h := bif_f h g20
  refine W_skip ?_
  refine W_seq ?_
  refine Vrs hT [0] ⟨[(0, kH 0), (3, kI 0)], [], [⟨.dp, 47, 1, l0.length, .d (.sl 46 (.pr (.wo 92) (.pr .u8 (.by 5)))) l0⟩]⟩ ?_
  refine W_block ?_
  refine Vc [] [0] (light_l1_E l0 0) (W_lp ((light_l1_P n l0 r)) n ⟨_, rfl, h⟩ ?_)
  rintro fu_l1 _ ⟨i3_2, rfl, h⟩
  cases fu_l1 with
  | zero => cases h
  | succ fu_l1 =>
   refine ⟨fu_l1, rfl, ?_⟩
   rw [light_l1] at h
   refine W_seq ?_
   refine Vrs hT [0] ⟨[(0, kH 0), (3, kI i3_2), (11, kB (decide (i3_2 < ((l0.length : Nat) : Int))))], [], [⟨.dp, 47, 1, l0.length, .d (.sl 46 (.pr (.wo 92) (.pr .u8 (.by 5)))) l0⟩]⟩ ?_
   refine Vi ((decide (i3_2 < ((l0.length : Nat) : Int)))) (fun g19 => ?_) (fun g19 => ?_)
   ·replace h := bif_t h g19
    refine W_skip ?_
    refine W_seq ?_
    refine W_block ?_
    refine W_seq ?_
    obtain ⟨g1, g2, h⟩ := gd2 h
    refine Vgs hT fN [] [] [0] ⟨[(0, kH 0), (3, kI i3_2), (19, kB (decide ((10 : Int) < (((l0.getD i3_2.toNat []).length : Nat) : Int))))], [], [⟨.dp, 47, 1, l0.length, .d (.sl 46 (.pr (.wo 92) (.pr .u8 (.by 5)))) l0⟩]⟩ (aP g1 (aP g2 aN)) ?_
    refine Vi ((decide ((10 : Int) < (((l0.getD i3_2.toNat []).length : Nat) : Int)))) (fun g18 => ?_) (fun g18 => ?_)
    ·replace h := bif_t h g18
     refine Vrs hT [] ⟨[(2, kB false)], [], []⟩ ?_
     refine Vc [] [] (light_R false) (W_ret ?_)
     exact ⟨.inl rfl, by cases h; rfl⟩
    ·replace h := bif_f h g18
     refine W_skip ?_
     refine Vrs hT [0] ⟨[(0, kH 0), (3, kI i3_2), (4, kI 0)], [], [⟨.dp, 47, 1, l0.length, .d (.sl 46 (.pr (.wo 92) (.pr .u8 (.by 5)))) l0⟩]⟩ ?_
     refine W_block ?_
     refine Vc [] [0] (light_l2_E l0 i3_2 0) (W_lp ((light_l2_P n l0 i3_2 (light_l1 n l0 fu_l1) r)) n ⟨_, rfl, h⟩ ?_)
     rintro fu_l2 _ ⟨i4_8, rfl, h⟩
     cases fu_l2 with
     | zero => cases h
     | succ fu_l2 =>
      refine ⟨fu_l2, rfl, ?_⟩
      rw [light_l2] at h
      refine W_seq ?_
      obtain ⟨g3, g4, h⟩ := gd2 h
      refine Vgs hT fN [] [] [0] ⟨[(0, kH 0), (3, kI i3_2), (4, kI i4_8), (26, kB (decide (i4_8 < (((l0.getD i3_2.toNat []).length : Nat) : Int))))], [], [⟨.dp, 47, 1, l0.length, .d (.sl 46 (.pr (.wo 92) (.pr .u8 (.by 5)))) l0⟩]⟩ (aP g3 (aP g4 aN)) ?_
      refine Vi ((decide (i4_8 < (((l0.getD i3_2.toNat []).length : Nat) : Int)))) (fun g17 => ?_) (fun g17 => ?_)
      ·replace h := bif_t h g17
       refine Vc [] [0] ⟨[(0, kH 0), (3, kI i3_2), (4, kI i4_8)], [], [⟨.dp, 47, 1, l0.length, .d (.sl 46 (.pr (.wo 92) (.pr .u8 (.by 5)))) l0⟩]⟩ (W_skip ?_)
       refine W_seq ?_
       refine W_block ?_
       refine W_seq ?_
       obtain ⟨g5, g6, g7, g8, h⟩ := gd4 h
       rcases Bool.eq_false_or_eq_true (decide ((200 : Int) < (((((l0.getD i3_2.toNat []).getD i4_8.toNat ([], (0, []))).2.2).length : Nat) : Int))) with g9 | g9
       ·replace h := bif_t h g9
        refine Vg hT fN [(10, true)] [] [0] ⟨[(0, kH 0), (3, kI i3_2), (4, kI i4_8), (50, kB true)], [], [⟨.dp, 47, 1, l0.length, .d (.sl 46 (.pr (.wo 92) (.pr .u8 (.by 5)))) l0⟩]⟩ (aP g5 (aP g6 (aP g7 (aP g8 (aP g9 aN))))) ?_
        refine Vi (true) (fun _ => ?_) (fun hb => by cases hb)
        refine Vrs hT [] ⟨[(2, kB false)], [], []⟩ ?_
        refine Vc [] [] (light_R false) (W_ret ?_)
        exact ⟨.inl rfl, by cases h; rfl⟩
       ·replace h := bif_f h g9
        obtain ⟨g10, g11, g12, g13, h⟩ := gd4 h
        refine Vg hT fN [(10, false)] [] [0] ⟨[(0, kH 0), (3, kI i3_2), (4, kI i4_8), (50, kB (decide ((30 : Int) < (((((l0.getD i3_2.toNat []).getD i4_8.toNat ([], (0, []))).1).length : Nat) : Int))))], [], [⟨.dp, 47, 1, l0.length, .d (.sl 46 (.pr (.wo 92) (.pr .u8 (.by 5)))) l0⟩]⟩ (aP g5 (aP g6 (aP g7 (aP g8 (aP g9 (aP g10 (aP g11 (aP g12 (aP g13 aN))))))))) ?_
        refine Vi ((decide ((30 : Int) < (((((l0.getD i3_2.toNat []).getD i4_8.toNat ([], (0, []))).1).length : Nat) : Int)))) (fun g15 => ?_) (fun g15 => ?_)
        ·replace h := bif_t h g15
         refine Vrs hT [] ⟨[(2, kB false)], [], []⟩ ?_
         refine Vc [] [] (light_R false) (W_ret ?_)
         exact ⟨.inl rfl, by cases h; rfl⟩
        ·replace h := bif_f h g15
         refine W_skip ?_
         obtain ⟨g14, h⟩ := gd_some h
         refine Vg hT fN [] [] [0] (light_l2_E l0 i3_2 (i4_8 + 1)) (aP g14 aN) ?_
         exact ⟨_, rfl, h⟩
      ·replace h := bif_f h g17
       refine Vc [] [0] ⟨[(0, kH 0), (3, kI i3_2)], [], [⟨.dp, 47, 1, l0.length, .d (.sl 46 (.pr (.wo 92) (.pr .u8 (.by 5)))) l0⟩]⟩ (W_exit ?_)
       obtain ⟨g16, h⟩ := gd_some h
       refine Vg hT fN [] [] [0] (light_l1_E l0 (i3_2 + 1)) (aP g16 aN) ?_
       exact ⟨_, rfl, h⟩
   ·replace h := bif_f h g19
    refine Vc [] [] ⟨[], [], []⟩ (W_exit ?_)
    refine Vrs hT [] ⟨[(2, kB true)], [], []⟩ ?_
    refine Vc [] [] (light_R true) (W_ret ?_)
    exact ⟨.inl rfl, by cases h; rfl⟩
def slEq_l1_E (a0 : List UInt32) (a1 : List UInt32) (i13_2 : Int) : S := ⟨[(0, kH 0), (1, kH 1), (12, kI ((a0.length : Nat) : Int)), (13, kI i13_2)], [], [ow 92 a0, ow 92 a1]⟩
abbrev slEq_l1_P (n : Nat) (a0 : List UInt32) (a1 : List UInt32) (r : Bool) (fu : Nat) : S → Prop := fun s => ∃ (i13_2 : Int), s = slEq_l1_E a0 a1 i13_2 ∧ slEq_l1 n a0 a1 fu i13_2 = some r
def slEq_R (r : Bool) : S := ⟨[(4, kB r)], [], []⟩
def slEq_ct (n : Nat) (r : Bool) : Ct := ctc (rW 92).rd fun _ l0 => ctc (rW 92).rd fun _ l1 => ct0 fun H => ([slEq n l0 l1 = some r], shA H.length (kB r), shH H.length [])
theorem slEq_ok (n : Nat) (r : Bool) : FnOk Try.prog Tr 61 (slEq_ct n r) := by
 refine fnok Try.func61 ?_
 refine HO_c (rW 92) fun l0 _ => HO_c (rW 92) fun l1 _ => HO_0 tabO_npa (slEq_R r) [.tmp 4] [] 26 Try.func61 fun w hG h => ?_
 unfold slEq at h
 have hT := tabO_npa
 refine Vrs hT [0, 1] ⟨[(0, kH 0), (1, kH 1)], [], [ow 92 l0, ow 92 l1]⟩ ?_
 refine W_seq ?_
 refine Vrs hT [0, 1] ⟨[(0, kH 0), (1, kH 1), (10, kB (((l0.length : Nat) : Int) != ((l1.length : Nat) : Int)))], [], [ow 92 l0, ow 92 l1]⟩ ?_
 refine Vi ((((l0.length : Nat) : Int) != ((l1.length : Nat) : Int))) (fun g8 => ?_) (fun g8 => ?_)
 ·replace h := bif_t h g8
  refine Vrs hT [] ⟨[(4, kB false)], [], []⟩ ?_
  refine Vc [] [] (slEq_R false) (W_ret ?_)
  exact ⟨.inl rfl, by cases h; rfl⟩
 ·replace h := bif_f h g8
  refine W_skip ?_
  refine W_seq ?_
  refine Vrs hT [0, 1] ⟨[(0, kH 0), (1, kH 1), (12, kI ((l0.length : Nat) : Int)), (13, kI 0)], [], [ow 92 l0, ow 92 l1]⟩ ?_
  refine W_block ?_
  refine Vc [] [0, 1] (slEq_l1_E l0 l1 0) (W_lp ((slEq_l1_P n l0 l1 r)) n ⟨_, rfl, h⟩ ?_)
  rintro fu_l1 _ ⟨i13_2, rfl, h⟩
  cases fu_l1 with
  | zero => cases h
  | succ fu_l1 =>
   refine ⟨fu_l1, rfl, ?_⟩
   rw [slEq_l1] at h
   refine Vrs hT [0, 1] ⟨[(0, kH 0), (1, kH 1), (12, kI ((l0.length : Nat) : Int)), (13, kI i13_2), (14, kB (decide (i13_2 < ((l0.length : Nat) : Int))))], [], [ow 92 l0, ow 92 l1]⟩ ?_
   refine W_seq ?_
   refine Vi ((decide (i13_2 < ((l0.length : Nat) : Int)))) (fun g7 => ?_) (fun g7 => ?_)
   ·replace h := bif_t h g7
    refine W_skip ?_
    refine W_seq ?_
    refine W_block ?_
    refine Vrs hT [0, 1] ⟨[(0, kH 0), (1, kH 1), (5, kI i13_2), (12, kI ((l0.length : Nat) : Int)), (13, kI i13_2)], [], [ow 92 l0, ow 92 l1]⟩ ?_
    obtain ⟨g1, g2, g3, g4, h⟩ := gd4 h
    refine Vds hT fN 8 [] [(0, false), (1, false), (12, false), (13, false), (19, false), (23, false)] [] [0, 1] ⟨[(0, kH 0), (1, kH 1), (12, kI ((l0.length : Nat) : Int)), (13, kI i13_2), (24, kB ((l0.getD i13_2.toNat 0) != (l1.getD i13_2.toNat 0)))], [], [ow 92 l0, ow 92 l1]⟩ (aP g1 (aP g2 (aP g3 (aP g4 aN)))) ?_
    refine Vi (((l0.getD i13_2.toNat 0) != (l1.getD i13_2.toNat 0))) (fun g6 => ?_) (fun g6 => ?_)
    ·replace h := bif_t h g6
     refine Vrs hT [] ⟨[(4, kB false)], [], []⟩ ?_
     refine Vc [] [] (slEq_R false) (W_ret ?_)
     exact ⟨.inl rfl, by cases h; rfl⟩
    ·replace h := bif_f h g6
     refine W_skip ?_
     obtain ⟨g5, h⟩ := gd_some h
     refine Vg hT fN [] [] [0, 1] (slEq_l1_E l0 l1 (i13_2 + 1)) (aP g5 aN) ?_
     exact ⟨_, rfl, h⟩
   ·replace h := bif_f h g7
    refine Vc [] [] ⟨[], [], []⟩ (W_exit ?_)
    refine Vrs hT [] ⟨[(4, kB true)], [], []⟩ ?_
    refine Vc [] [] (slEq_R true) (W_ret ?_)
    exact ⟨.inl rfl, by cases h; rfl⟩
def byEq_R (r : Bool) : S := ⟨[(4, kB r)], [], []⟩
def byEq_ct (n : Nat) (r : Bool) : Ct := ctc (rB 5).rd fun _ l0 => ctc (rB 5).rd fun _ l1 => ct0 fun H => ([byEq n l0 l1 = some r], shA H.length (kB r), shH H.length [])
theorem byEq_ok (n : Nat) (r : Bool) : FnOk Try.prog Tr 62 (byEq_ct n r) := by
 refine fnok Try.func62 ?_
 refine HO_c (rB 5) fun l0 _ => HO_c (rB 5) fun l1 _ => HO_0 tabO_npa (byEq_R r) [.tmp 4] [] 10 Try.func62 fun w hG h => ?_
 unfold byEq at h
 have hT := tabO_npa
 refine Vrs hT [0, 1] ⟨[(0, kH 0), (1, kH 1)], [], [ob 5 l0, ob 5 l1]⟩ ?_
 refine Vrs hT [] ⟨[(4, kB (l0 == l1))], [], []⟩ ?_
 refine Vc [] [] (byEq_R (l0 == l1)) (W_ret ?_)
 exact ⟨.inl rfl, by cases h; rfl⟩
def like_R (r : Bool) : S := ⟨[(4, kB r)], [], []⟩
def like_ct (n : Nat) (r : Bool) : Ct := ctc (rSt (lC (cW 92) (lC cU8 (lC (cB 5) lN)))).rd fun _ y0 => ctc (rSt (lC (cW 92) (lC cU8 (lC (cB 5) lN)))).rd fun _ y1 => ct0 fun H => ([like n y0.1 y0.2.1 y0.2.2.1 y1.1 y1.2.1 y1.2.2.1 = some r], shA H.length (kB r), shH H.length [])
theorem like_ok (n : Nat) (r : Bool) : FnOk Try.prog Tr 39 (like_ct n r) := by
 refine fnok Try.func39 ?_
 refine HO_c (rSt (lC (cW 92) (lC cU8 (lC (cB 5) lN)))) fun p0 _ => ?_
 obtain ⟨l0_0, l0_1, l0_2, _⟩ := p0
 refine HO_c (rSt (lC (cW 92) (lC cU8 (lC (cB 5) lN)))) fun p1 _ => ?_
 obtain ⟨l1_0, l1_1, l1_2, _⟩ := p1
 refine HO_0 tabO_npa (like_R r) [.tmp 4] [] 19 Try.func39 fun w hG h => ?_
 have h : like n l0_0 l0_1 l0_2 l1_0 l1_1 l1_2 = some r := h
 unfold like at h
 have hT := tabO_npa
 refine Vrs hT [4, 0, 1, 5, 2, 3] ⟨[(2, kP 0 0), (3, kP 3 0)], [], [⟨.blk, 46, 1, 3, .c [.wh 1, .s (.u8 l0_1), .wh 2]⟩, ow 92 l0_0, ob 5 l0_2, ⟨.blk, 46, 1, 3, .c [.wh 4, .s (.u8 l1_1), .wh 5]⟩, ow 92 l1_0, ob 5 l1_2]⟩ ?_
 refine W_seq ?_
 obtain ⟨r9, g1, h⟩ := bind_some' h
 rcases Bool.eq_false_or_eq_true r9 with g2 | g2
 ·replace h := bif_t h g2
  obtain ⟨r13, g3, h⟩ := bind_some' h
  obtain ⟨r16, g4, h⟩ := bind_some' h
  obtain ⟨r17, g5, h⟩ := bind_some' h
  refine Vd hT (fT 4 (slEq_ok n r9) (fT 8 (sPlain_ok n r13) (fT 11 (sPlain_ok n r16) (fT 12 (byEq_ok n r17) fN)))) 12 [(5, true)] [(10, false), (13, true), (16, true)] [] [] ⟨[(4, kB r17)], [], []⟩ (aP g1 (aP g2 (aP g3 (aP g4 (aP g5 aN))))) ?_
  refine Vc [] [] (like_R r17) (W_ret ?_)
  exact ⟨.inl rfl, by cases h; rfl⟩
 ·replace h := bif_f h g2
  refine Vd hT (fT 4 (slEq_ok n r9) fN) 12 [(5, false)] [(10, false), (13, false), (16, false)] [] [] ⟨[(4, kB false)], [], []⟩ (aP g1 (aP g2 aN)) ?_
  refine Vc [] [] (like_R false) (W_ret ?_)
  exact ⟨.inl rfl, by cases h; rfl⟩
end Go.Proofs.Ytobfglafchoipaa
end
