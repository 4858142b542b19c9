import Derived.Test.YtpinmaodpfoinaaSxN
set_option linter.unusedVariables false
set_option linter.unusedSimpArgs false
namespace Go.Sx
open Go.RowKit Go.Ch
section
variable {P : Program} {T : Tab} {ρ : Pls} {w w' : World} {bs : Bs} {w0 : World} {s : S} {a : Act} {N : Nat}

/-! ### contracts of functions that write into nothing that was there -/
abbrev Ct := List AV → Hp → Option (List Prop × AV × List Oj)
abbrev FT := FuncId → Option Ct
def updL (ρ : Pls) (m : Nat) (ps : List Pl) : Pls := fun i => if i < m then ρ i else match ps[i - m]? with | some p => p | none => ρ i
theorem updL_lt {ρ : Pls} {m : Nat} {ps : List Pl} : ∀ i, i < m → updL ρ m ps i = ρ i := fun i hi => by unfold updL; rw [if_pos hi]
theorem updL_at {ρ : Pls} {m : Nat} {ps : List Pl} {k : Nat} {p : Pl} (h : ps[k]? = some p) : updL ρ m ps (m + k) = p := by
  unfold updL; rw [if_neg (by omega), show m + k - m = k by omega, h]
/-- what a call leaves -/
structure Left (ρ : Pls) (w : World) (H : Hp) (av : AV) (objs : List Oj) (v : Value) (w' : World) (ps : List Pl) : Prop where
  len : ps.length = objs.length
  obj : ∀ (k : Nat) (o : Oj) (p : Pl), objs[k]? = some o → ps[k]? = some p → objR (updL ρ H.length ps) w' p o
  val : avR (updL ρ H.length ps) av v
  place : ∀ (k : Nat) (o : Oj) (p : Pl) (g : Nat), objs[k]? = some o → ps[k]? = some p → objAt p o g → w.heap.size ≤ g ∨ o.kd = .ro false
  sep : ∀ (k l : Nat) (o o' : Oj) (p p' : Pl) (g : Nat), k ≠ l → objs[k]? = some o → objs[l]? = some o' → ps[k]? = some p → ps[l]? = some p' → o.own = true → objAt p o g → ¬ objAt p' o' g
def CtOk (P : Program) (I : World → Prop) (f : FuncId) (F : Ct) : Prop :=
  ∀ (args : List AV) (H : Hp) (g : List Prop) (av : AV) (objs : List Oj), F args H = some (g, av, objs) → allP g → ∀ (ρ : Pls) (w : World) (vals : List Value), I w → HpR ρ w H → F2 (avR ρ) args vals →
    Calls P f vals.toArray w (Ret fun v w' => Ext w w' ∧ ∃ ps, Left ρ w H av objs v w' ps)
def FtOk (P : Program) (I : World → Prop) (ft : FT) : Prop := ∀ f F, ft f = some F → CtOk P I f F ∧ ∃ fn, P.funcs[f]? = some fn ∧ (fn.name == "runtime.NumGoroutine") = false ∧ fn.body.isNone = false

/-- several objects come to a state -/
theorem RelA.news (h : RelA ρ bs w0 s a w) (hs : okS s = true) {objs : List Oj} {ps : List Pl} (hl : ps.length = objs.length) {H' : Hp}
    (hlen : H'.length = s.H.length) (hH' : ∀ (j : Nat) (x : Oj), H'[j]? = some x → x.kd = .dead ∨ (s.H[j]? = some x ∧ objR ρ w' (ρ j) x))
    (hk : Kp bs w0 w') (hnew : ∀ (k : Nat) (o : Oj) (p : Pl), objs[k]? = some o → ps[k]? = some p → objR (updL ρ s.H.length ps) w' p o)
    (hsep : ∀ (k : Nat) (o : Oj) (p : Pl) (j : Nat) (x : Oj) (g : Nat), objs[k]? = some o → ps[k]? = some p → H'[j]? = some x → x.kd ≠ .dead → objAt p o g → (x.own = true ∨ o.own = true) → ¬ objAt (ρ j) x g)
    (hsep2 : ∀ (k l : Nat) (o o' : Oj) (p p' : Pl) (g : Nat), k ≠ l → objs[k]? = some o → objs[l]? = some o' → ps[k]? = some p → ps[l]? = some p' → o.own = true → objAt p o g → ¬ objAt p' o' g)
    (hown : ∀ (k : Nat) (o : Oj) (p : Pl), objs[k]? = some o → ps[k]? = some p → o.fsh = true → ∀ g, objAt p o g → w0.heap.size ≤ g ∨ bs g) (fr : Fr) (a' : Act) (hfr : FrR (updL ρ s.H.length ps) fr a') :
    RelA (updL ρ s.H.length ps) bs w0 ⟨fr, s.gl, H' ++ objs⟩ a' w' := by
  obtain ⟨h1, h2, h3⟩ := okS_ok hs
  have hlt : ∀ i, i < s.H.length → updL ρ s.H.length ps i = ρ i := updL_lt
  have part : ∀ (i : Nat) (x : Oj), (H' ++ objs)[i]? = some x → (i < s.H.length ∧ H'[i]? = some x) ∨ ∃ k p, i = s.H.length + k ∧ objs[k]? = some x ∧ ps[k]? = some p := by
    intro i x hx
    by_cases hi : i < H'.length
    · rw [List.getElem?_append_left hi] at hx; exact .inl ⟨by omega, hx⟩
    · rw [List.getElem?_append_right (by omega)] at hx
      have hk := (List.getElem?_eq_some_iff.1 hx).1
      exact .inr ⟨i - H'.length, ps[i - H'.length], by omega, hx, List.getElem?_eq_getElem (by omega)⟩
  refine ⟨hfr, fun t x hx => ltA_ok hlt (ltF_ok h2 t x hx) (h.gl t x hx), fun i x hx => ?_, fun i j x y g hij hx hy hox hat hat2 => ?_, fun i x g hx hox hat => ?_, hk⟩
  · rcases part i x hx with ⟨hi, hx1⟩ | ⟨k, p, rfl, hx1, hp⟩
    · rw [hlt i hi]
      rcases hH' i x hx1 with hd | ⟨hs, hr⟩
      · unfold objR; simp only [hd]
      · exact objR_lt hlt (fun hkd => ltH_ok h3 i x hs hkd) hr
    · rw [updL_at hp]; exact hnew k x p hx1 hp
  · have hxk : x.kd ≠ .dead := by intro e; unfold Oj.own at hox; rw [e] at hox; cases hox
    have hyk : y.kd ≠ .dead := by intro e; unfold objAt at hat2; simp only [e] at hat2
    rcases part i x hx with ⟨hi, hx1⟩ | ⟨k, p, rfl, hx1, hp⟩
    · rw [hlt i hi] at hat
      rcases part j y hy with ⟨hj, hy1⟩ | ⟨l, q, rfl, hy1, hq⟩
      · rw [hlt j hj] at hat2
        rcases hH' i x hx1 with hd | ⟨hsx, _⟩
        · exact hxk hd
        · rcases hH' j y hy1 with hd | ⟨hsy, _⟩
          · exact hyk hd
          · exact h.sep i j x y g hij hsx hsy hox hat hat2
      · rw [updL_at hq] at hat2
        exact hsep l y q i x g hy1 hq hx1 hxk hat2 (.inl hox) hat
    · rw [updL_at hp] at hat
      rcases part j y hy with ⟨hj, hy1⟩ | ⟨l, q, rfl, hy1, hq⟩
      · rw [hlt j hj] at hat2
        exact hsep k x p j y g hx1 hp hy1 hyk hat (.inr hox) hat2
      · rw [updL_at hq] at hat2
        exact hsep2 k l x y p q g (fun e => hij (by rw [e])) hx1 hy1 hp hq hox hat hat2
  · rcases part i x hx with ⟨hi, hx1⟩ | ⟨k, p, rfl, hx1, hp⟩
    · rw [hlt i hi] at hat
      rcases hH' i x hx1 with hd | ⟨hsx, _⟩
      · unfold Oj.fsh at hox; rw [hd] at hox; cases hox
      · exact h.own i x g hsx hox hat
    · rw [updL_at hp] at hat
      exact hown k x p hx1 hp hox g hat

/-- what was owned is only read from now on -/
def demO : Hp → Hp
  | [] => []
  | o :: l => (match o.kd with | .row => ⟨.ro true, o.e, o.sz, o.n, o.cs⟩ | .blk => ⟨.dead, o.e, o.sz, o.n, o.cs⟩ | _ => o) :: demO l
theorem demO_len : ∀ (H : Hp), (demO H).length = H.length
  | [] => rfl
  | o :: l => by simp [demO, demO_len l]
theorem demO_at : ∀ {H : Hp} {i : Nat} {x : Oj}, (demO H)[i]? = some x → ∃ o, H[i]? = some o ∧ x.own = false ∧ (x = o ∨ (o.kd = .row ∧ x = ⟨.ro true, o.e, o.sz, o.n, o.cs⟩) ∨ x.kd = .dead)
  | [], i, x, h => by simp [demO] at h
  | o :: l, i, x, h => by
    cases i with
    | zero =>
      simp only [demO, List.getElem?_cons_zero, Option.some.injEq] at h
      refine ⟨o, rfl, ?_⟩
      cases hk : o.kd with
      | row => simp only [hk] at h; subst h; exact ⟨rfl, .inr (.inl ⟨rfl, rfl⟩)⟩
      | blk => simp only [hk] at h; subst h; exact ⟨rfl, .inr (.inr rfl)⟩
      | ro b => simp only [hk] at h; subst h; exact ⟨by unfold Oj.own; rw [hk], .inl rfl⟩
      | dead => simp only [hk] at h; subst h; exact ⟨by unfold Oj.own; rw [hk], .inl rfl⟩
    | succ i => simpa [demO] using demO_at (H := l) (i := i) (by simpa [demO] using h)
theorem RelA.dem (h : RelA ρ bs w0 s a w) : RelA ρ bs w0 ⟨s.fr, s.gl, demO s.H⟩ a w := by
  refine ⟨h.fr, h.gl, fun i x hx => ?_, fun i j x y g _ hx _ hox => ?_, fun i x g hx hox hat => ?_, h.kp⟩
  · obtain ⟨o, ho, _, rfl | ⟨hk, rfl⟩ | hd⟩ := demO_at hx
    · exact h.hp i x ho
    · have hr := h.hp i o ho
      have h1 := hr.slc (.inr hk)
      obtain ⟨h2, h3⟩ := hr.read (by rw [hk]; simp)
      exact ⟨h2, h1, h3⟩
    · unfold objR; simp only [hd]
  · obtain ⟨o, ho, hno, _⟩ := demO_at hx
    rw [hno] at hox; cases hox
  · obtain ⟨o, ho, _, rfl | ⟨hk, rfl⟩ | hd⟩ := demO_at hx
    · exact h.own i x g ho hox hat
    · obtain ⟨_, ad, had, hb⟩ := hat
      exact h.own i o g ho (by unfold Oj.fsh; rw [hk]) (by unfold objAt; simp only [hk]; exact ⟨ad, had, hb⟩)
    · unfold Oj.fsh at hox; rw [hd] at hox; cases hox
def hasRo : List Oj → Bool
  | [] => false
  | o :: l => (match o.kd with | .ro false => true | _ => false) || hasRo l
theorem hasRo_no : ∀ {l : List Oj}, hasRo l = false → ∀ (k : Nat) (o : Oj), l[k]? = some o → o.kd ≠ .ro false
  | [], _, k, o, ho => by simp at ho
  | x :: l, h, k, o, ho => by
    simp only [hasRo, Bool.or_eq_false_iff] at h
    cases k with
    | zero => simp at ho; subst ho; intro e; rw [e] at h; cases h.1
    | succ k => exact hasRo_no h.2 k o (by simpa using ho)
def demI (b : Bool) (H : Hp) : Hp := match b with | true => demO H | false => H
def killO : List Nat → Hp → Hp
  | [], H => H
  | i :: is, H => killO is (match H[i]? with | some o => (match o.own with | true => killH H i | false => H) | none => H)
theorem killO_len : ∀ (is : List Nat) (H : Hp), (killO is H).length = H.length
  | [], _ => rfl
  | i :: is, H => by
    simp only [killO]
    rw [killO_len is]
    split
    · split
      · exact killH_len H i
      · rfl
    · rfl
theorem killO_at : ∀ {is : List Nat} {H : Hp} {j : Nat} {x : Oj}, (killO is H)[j]? = some x → x.kd = .dead ∨ (H[j]? = some x ∧ (x.own = true → j ∉ is))
  | [], H, j, x, h => .inr ⟨h, fun _ => by simp⟩
  | i :: is, H, j, x, h => by
    simp only [killO] at h
    rcases killO_at h with hd | ⟨h1, h2⟩
    · exact .inl hd
    · split at h1
      · rename_i o ho
        split at h1
        · rename_i hown
          rcases killH_at h1 with hd | ⟨hj, h3⟩
          · exact .inl hd
          · exact .inr ⟨h3, fun hx => by simp only [List.mem_cons, not_or]; exact ⟨hj, h2 hx⟩⟩
        · rename_i hown
          refine .inr ⟨h1, fun hx => ?_⟩
          simp only [List.mem_cons, not_or]
          refine ⟨fun e => ?_, h2 hx⟩
          subst e; rw [ho] at h1; injection h1 with h1; subst h1
          rw [hx] at hown; cases hown
      · rename_i ho
        refine .inr ⟨h1, fun hx => ?_⟩
        simp only [List.mem_cons, not_or]
        refine ⟨fun e => ?_, h2 hx⟩
        subst e; rw [ho] at h1; cases h1

/-! ### one operation, on a state -/
def evs (ae : Operand → Option AV) : List Operand → Option (List AV)
  | [] => some []
  | x :: xs => match ae x, evs ae xs with
    | some v, some vs => some (v :: vs)
    | _, _ => none
theorem evs_ok {ae : Operand → Option AV} {ev : Operand → Value} (hae : ∀ x av, ae x = some av → avR ρ av (ev x)) : ∀ {xs : List Operand} {vs : List AV}, evs ae xs = some vs → F2 (avR ρ) vs (xs.map ev)
  | [], vs, h => by injection h with h; subst h; exact F2.nil
  | x :: xs, vs, h => by
    simp only [evs] at h
    split at h
    · rename_i v vs' h1 h2
      injection h with h; subst h
      exact F2.cons (hae x v h1) (evs_ok hae h2)
    · cases h
def ltO (m : Nat) : List Oj → Bool
  | [] => true
  | o :: l => ltX m o.cs && ltO m l
def dOk (N : Nat) (d : Option Nat) : Bool := match d with | some k => decide (k < N) | none => true
theorem dOk_ok {N : Nat} {d : Option Nat} (h : dOk N d = true) (hN : a.tmps.size = N) : ∀ k, d = some k → k < a.tmps.size := by
  intro k hk; subst hk; simp only [dOk, decide_eq_true_eq] at h; omega
/-- the effects -/
def eff (T : Tab) (ft : FT) (s : S) (d : Option Nat) (op : Op) : Option (List Prop × S) := match op with
  | .store t x y => (match d, ev0 s.fr s.gl x, ev0 s.fr s.gl y with
    | none, some vx, some vy => (match stA T s.H t vx vy with
      | some (i, o, cs') => some ([], ⟨s.fr, s.gl, s.H.set i { o with cs := cs' }⟩)
      | none => none)
    | _, _, _ => none)
  | .call c => (match c.callee with
    | .builtin b => (match b, c.args.toList, c.argTypes.toList with
      | .append, [x, y], [t, t'] => (match decide (t = t'), ev0 s.fr s.gl x, ev0 s.fr s.gl y with
        | true, some vx, some vy => (match apA T s.H t vx vy with
          | some (g, io, o') => (match okS s && ltX s.H.length o'.cs with
            | true => some (g, ⟨putF s.fr d (.c (.wh s.H.length)), s.gl, killM io s.H ++ [o']⟩)
            | false => none)
          | none => none)
        | _, _, _ => none)
      | .copy, [x, y], t :: _ => (match ev0 s.fr s.gl x, ev0 s.fr s.gl y with
        | some vx, some vy => (match cpA T s.H t vx vy with
          | some (i, o, cs', k) => some ([], ⟨putF s.fr d (.c (.s (.k .i64 (k : Int)))), s.gl, s.H.set i { o with cs := cs' }⟩)
          | none => none)
        | _, _ => none)
      | _, _, _ => none)
    | .value (.func f) => (match ft f, evs (ev0 s.fr s.gl) c.args.toList with
      | some F, some vs => (match F vs s.H with
        | some (g, av, objs) => (match okS ⟨s.fr, s.gl, demI (hasRo objs) s.H⟩ with
          | true => some (g, ⟨putF s.fr d av, s.gl, demI (hasRo objs) s.H ++ objs⟩)
          | false => none)
        | none => none)
      | _, _ => none)
    | _ => none)
  | .convert t t' x => (match ev0 s.fr s.gl x with
    | some vx => (match mkA T s.H t t' vx with
      | some (i, o) => some ([], ⟨putF s.fr d vx, s.gl, s.H.set i { o with kd := .ro true }⟩)
      | none => none)
    | none => none)
  | _ => none
/-- one operation that is carried out -/
def stp (T : Tab) (ft : FT) (N : Nat) (s : S) (o : Oper) : Option (List Prop × S) := match dOk N o.dst with
  | false => none
  | true => match vop T s.H (ev0 s.fr s.gl) o.op with
    | some (g, z) => some (g, ⟨putF s.fr o.dst z, s.gl, s.H⟩)
    | none => match aop T (ev0 s.fr s.gl) o.op o.type with
      | some (g, b, ob) => (match okS s && (ltX s.H.length ob.cs && decide (ob.kd ≠ .dead)) with
        | true => some (g, ⟨putF s.fr o.dst (if b then .c (.pt s.H.length 0) else .c (.wh s.H.length)), s.gl, s.H ++ [ob]⟩)
        | false => none)
      | none => eff T ft s o.dst o.op

theorem put_none (a : Act) (v : Value) : a.put none v = a := rfl
theorem stp_ok (hT : TabOk P T) {ft : FT} (hF : FtOk P (Kp bs w0) ft) {o : Oper} {g : List Prop} {s' : S} (h : stp T ft N s o = some (g, s')) (hg : allP g) (hR : Rel N bs w0 s a w) :
    o.wp P a w (fun a' w' => Rel N bs w0 s' a' w') (fun _ _ _ => False) := by
  obtain ⟨hd0, hN, ρ, hR⟩ := hR
  have hae := fun x av h => ev0_ok (ρ := ρ) (a := a) hR.fr hR.gl x av h
  obtain ⟨dst, op, ty, pos, aft, gd⟩ := o
  unfold stp at h
  split at h
  · cases h
  · rename_i hdk
    have hd := dOk_ok hdk hN
    have back : ∀ {s' : S} {u : Value} {w' : World} {ρ' : Pls}, RelA ρ' bs w0 s' (a.put dst u) w' → Rel N bs w0 s' (a.put dst u) w' := fun hr => ⟨by rw [put_defers]; exact hd0, by rw [put_size]; exact hN, _, hr⟩
    split at h
    · rename_i g' z hv
      injection h with h; simp only [Prod.mk.injEq] at h; obtain ⟨rfl, rfl⟩ := h
      obtain ⟨u, hr, hu⟩ := vop_ok hT hR.hp hae hv hg dst ty pos aft gd
      unfold Oper.wp
      rw [hr]
      exact back (hR.put hu hd)
    · split at h
      · rename_i g' b ob ha
        split at h
        · rename_i hck
          simp only [Bool.and_eq_true, decide_eq_true_eq] at hck
          injection h with h; simp only [Prod.mk.injEq] at h; obtain ⟨rfl, rfl⟩ := h
          obtain ⟨u, w', p, hr, hgr, hn⟩ := aop_ok (w := w) hT hae ha hg dst pos aft gd
          unfold Oper.wp
          rw [hr]
          exact back (hR.alloc hck.1 hck.2.1 hgr hn hck.2.2 hd)
        · cases h
      · rename_i hv1 _ hv2
        clear hv1 hv2
        simp only at h
        cases op with
        | store t x y =>
          cases dst with
          | some _ => simp [eff] at h
          | none =>
            simp only [eff] at h
            split at h
            · rename_i vx vy _ hx hy
              split at h
              · rename_i i ob cs' hst
                injection h with h; simp only [Prod.mk.injEq] at h; obtain ⟨rfl, rfl⟩ := h
                obtain ⟨w', hr, hR', _⟩ := stA_ok hT hR hst (hae x vx hx) (hae y vy hy)
                unfold Oper.wp
                have : (execOp a.eval ⟨none, .store t x y, ty, pos, aft, gd⟩).run P w = .ok .skip w' := by simp [execOp, hr]
                rw [this]
                exact ⟨hd0, hN, ρ, hR'⟩
              · cases h
            · cases h
        | convert t t' x =>
          simp only [eff] at h
          split at h
          · rename_i vx hx
            split at h
            · rename_i i o hmk
              injection h with h; simp only [Prod.mk.injEq] at h; obtain ⟨rfl, rfl⟩ := h
              obtain ⟨w', hr, hR'⟩ := mkA_ok hT hR hmk (hae x vx hx)
              unfold Oper.wp
              have : (execOp a.eval ⟨dst, .convert t t' x, ty, pos, aft, gd⟩).run P w = .ok (.value (a.eval x)) w' := by simp [execOp, hr]
              rw [this]
              exact back (hR'.put (hae x vx hx) hd)
            · cases h
          · cases h
        | call c =>
          obtain ⟨callee, args, argTypes⟩ := c
          cases callee with
          | builtin b =>
            simp only [eff] at h
            split at h
            · rename_i x y t t' hargs htys
              have ea : args = #[x, y] := by apply Array.ext'; exact hargs
              have et : argTypes = #[t, t'] := by apply Array.ext'; exact htys
              subst ea; subst et
              split at h
              · rename_i vx vy htt hx hy
                simp only [decide_eq_true_eq] at htt
                subst htt
                split at h
                · rename_i g' io o' hap
                  split at h
                  · rename_i hck
                    simp only [Bool.and_eq_true] at hck
                    injection h with h; simp only [Prod.mk.injEq] at h; obtain ⟨rfl, rfl⟩ := h
                    obtain ⟨u, w', p, hr, hR'⟩ := apA_ok hT hR hck.1 hap hck.2 hg (hae x vx hx) (hae y vy hy) hd (ty := ty)
                    unfold Oper.wp
                    have : (execOp a.eval ⟨dst, .call { callee := .builtin .append, args := #[x, y], argTypes := #[t, t] }, ty, pos, aft, gd⟩).run P w = .ok (.value u) w' := by
                      simp [execOp, resolve, invoke, builtin, hr]
                    rw [this]
                    exact back hR'
                  · cases h
                · cases h
              · cases h
            · rename_i x y t ts hargs htys
              have ea : args = #[x, y] := by apply Array.ext'; exact hargs
              subst ea
              split at h
              · rename_i vx vy hx hy
                split at h
                · rename_i i o cs' k hcp
                  injection h with h; simp only [Prod.mk.injEq] at h; obtain ⟨rfl, rfl⟩ := h
                  have et0 : argTypes[0]? = some t := by rw [← Array.getElem?_toList, htys]; rfl
                  obtain ⟨w', hr, hR'⟩ := cpA_ok (t' := t) (ty := ty) hT hR hcp (hae x vx hx) (hae y vy hy)
                  have hr2 : (Builtin.copy_ argTypes ty #[a.eval x, a.eval y]).run P w = .ok (.int .i64 (k : Int)) w' := by
                    rw [← hr]; unfold Builtin.copy_; simp only [et0]; rfl
                  unfold Oper.wp
                  have : (execOp a.eval ⟨dst, .call { callee := .builtin .copy, args := #[x, y], argTypes := argTypes }, ty, pos, aft, gd⟩).run P w = .ok (.value (.int .i64 (k : Int))) w' := by
                    simp [execOp, resolve, invoke, builtin, hr2]
                  rw [this]
                  exact back (hR'.put (show avR _ (.c (.s (.k .i64 (k : Int)))) _ from rfl) hd)
                · cases h
              · cases h
            · cases h
          | value fo =>
            cases fo with
            | func f =>
             simp only [eff] at h
             split at h
             · rename_i F vs hf hvs
               split at h
               · rename_i g' av objs hFr
                 split at h
                 · rename_i hs
                   injection h with h; simp only [Prod.mk.injEq] at h; obtain ⟨rfl, rfl⟩ := h
                   obtain ⟨hct, fn, hfn, hname, hbody⟩ := hF f F hf
                   have hvals := evs_ok hae hvs
                   have hc := hct vs s.H _ av objs hFr hg ρ w (args.toList.map a.eval) hR.kp hR.hp hvals
                   have hrun : (execOp a.eval ⟨dst, .call { callee := .value (.func f), args := args, argTypes := argTypes }, ty, pos, aft, gd⟩).run P w = .ok (.enter f (args.toList.map a.eval).toArray) w := by
                     have hname' : ¬ fn.name = "runtime.NumGoroutine" := by simpa using hname
                     have hb' : ¬ fn.body = none := fun h0 => by rw [h0] at hbody; cases hbody
                     have e : (args.toList.map a.eval).toArray = args.map a.eval := by apply Array.ext'; simp
                     rw [e]
                     simp [execOp, resolve, invoke, callFunc, Deferred.ofValue, Act.eval, hfn, hname', hb']
                   unfold Oper.wp
                   rw [hrun]
                   refine hc.mono fun e w' ⟨v, he, hx, ps, hL⟩ => ?_
                   subst he
                   have hlenI : (demI (hasRo objs) s.H).length = s.H.length := by unfold demI; split; exact demO_len _; rfl
                   have hRI : RelA ρ bs w0 ⟨s.fr, s.gl, demI (hasRo objs) s.H⟩ a w := by
                     unfold demI; split
                     · exact hR.dem
                     · exact hR
                   have hobj := hL.obj
                   have hval := hL.val
                   rw [← hlenI] at hobj hval
                   refine back (hRI.news hs hL.len rfl (fun j x hj => .inr ⟨hj, (hRI.hp j x hj).keep fun g hlt _ => hx.block g hlt⟩) (hRI.kp.ext hx) hobj (fun k o p j x g ho hp hj hxk hat hor hat2 => ?_) hL.sep (fun k o p ho hp hfs g hat => ?_) _ _ (putF_ok (fun t x hx => ltA_ok updL_lt (ltF_ok (okS_ok hs).1 t x hx) (hRI.fr t x hx)) hval hd))
                   · rcases hL.place k o p g ho hp hat with hge | hro
                     · have := objAt_lt (hRI.hp j x hj) hat2
                       omega
                     · have hyes : hasRo objs = true := by
                         cases hb : hasRo objs with
                         | true => rfl
                         | false => exact absurd hro (hasRo_no hb k o ho)
                       have hj2 : (demO s.H)[j]? = some x := by rw [hyes] at hj; exact hj
                       obtain ⟨_, _, hno, _⟩ := demO_at hj2
                       rcases hor with h1 | h1
                       · rw [hno] at h1; cases h1
                       · unfold Oj.own at h1; rw [hro] at h1; cases h1
                   · rcases hL.place k o p g ho hp hat with hge | hro
                     · exact .inl (Nat.le_trans hR.kp.size hge)
                     · unfold Oj.fsh at hfs; rw [hro] at hfs; cases hfs
                 · cases h
               · cases h
             · cases h
            | _ => simp [eff] at h
          | _ => simp [eff] at h
        | _ => simp [eff] at h
end
end Go.Sx
