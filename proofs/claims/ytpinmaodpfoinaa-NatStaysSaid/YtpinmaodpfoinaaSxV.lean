import Derived.Test.YtpinmaodpfoinaaSxU
set_option linter.unusedVariables false
set_option linter.unusedSimpArgs false
namespace Go.Sx
open Go.RowKit Go.Ch
section
variable {P : Program} {T : Tab} {ft : Nat → FT} {ρ : Pls} {w w' : World} {bs : Bs} {w0 wB : World} {s s' : S} {a : Act} {N m : Nat}

/-! ### a drawn region with one store among what is free: no other operation looks at the cells that it writes -/
def blur (o : Oj) : Oj := { o with cs := .c (List.replicate (o.n * o.sz) .junk) }
theorem blur_ok {p : Pl} {o : Oj} (h : objR ρ w p o) : objR ρ w p (blur o) := by
  have key : ∀ (vs : List Value), o.cs.cl.length = o.n * o.sz → csR ρ o.cs vs → csR ρ (.c (List.replicate (o.n * o.sz) .junk)) vs := fun vs hl hv => by
    refine ⟨by rw [hv.len, hl]; simp [Cs.cl], fun j c v hc _ => ?_⟩
    have : c = .junk := by
      simp only [Cs.cl, List.getElem?_replicate] at hc
      split at hc
      · injection hc with hc; exact hc.symm
      · cases hc
    subst this; exact True.intro
  unfold objR at h ⊢
  unfold blur
  cases hk : o.kd with
  | dead => exact True.intro
  | ro fs => simp only [hk] at h ⊢; obtain ⟨⟨e1, e2, e3⟩, g1, vs, hc, hA⟩ := h; exact ⟨⟨e1, e2, by simp [Cs.cl]⟩, g1, vs, key vs e3 hc, hA⟩
  | row => simp only [hk] at h ⊢; obtain ⟨⟨e1, e2, e3⟩, vs, hc, hA⟩ := h; exact ⟨⟨e1, e2, by simp [Cs.cl]⟩, vs, key vs e3 hc, hA⟩
  | blk => simp only [hk] at h ⊢; obtain ⟨⟨e1, e2, e3⟩, b, vs, hA, hc, hB⟩ := h; exact ⟨⟨e1, e2, by simp [Cs.cl]⟩, b, vs, hA, key vs e3 hc, hB⟩
theorem blur_hp {H : Hp} {i : Nat} {o : Oj} (hi : H[i]? = some o) (h : HpR ρ w H) : HpR ρ w (H.set i (blur o)) := by
  intro j x hx
  rw [List.getElem?_set] at hx
  split at hx
  · rename_i e
    subst e
    split at hx
    · injection hx with hx; subst hx; exact blur_ok (h _ o hi)
    · cases hx
  · exact h j x hx
theorem blur_hp2 {H : Hp} {i : Nat} {o : Oj} {cs : Cs} (hi : H[i]? = some o) (h : HpR ρ w (H.set i { o with cs := cs })) : HpR ρ w (H.set i (blur o)) := by
  have hlt := (List.getElem?_eq_some_iff.1 hi).1
  have := blur_hp (i := i) (o := { o with cs := cs }) (by rw [List.getElem?_set]; simp [hlt]) h
  rwa [List.set_set] at this
/-- just the slots that operands name -/
def opG (l : List Operand) (fr : Fr) : Fr := fr.filter fun p => l.any fun x => match x with | .tmp t => Nat.beq t p.1 | _ => false
theorem opG_lk {l : List Operand} {fr : Fr} {t : Nat} {x : AV} (h : (opG l fr).lookup t = some x) : fr.lookup t = some x ∧ Operand.tmp t ∈ l := by
  unfold opG at h
  induction fr with
  | nil => simp at h
  | cons p fr ih =>
    obtain ⟨k, z⟩ := p
    rw [List.filter_cons] at h
    split at h
    · rename_i hk
      rw [List.lookup_cons] at h ⊢
      split at h
      · rename_i e
        have e2 : t = k := by simpa using e
        subst e2
        obtain ⟨y, hy, hy2⟩ := List.any_eq_true.1 hk
        cases y with
        | tmp t2 => have := Nat.eq_of_beq_eq_true hy2; simp only at this; subst this; exact ⟨h, hy⟩
        | _ => cases hy2
      · exact ih h
    · rename_i hk
      obtain ⟨h1, h2⟩ := ih h
      refine ⟨?_, h2⟩
      rw [List.lookup_cons]
      split
      · rename_i e
        have e2 : t = k := by simpa using e
        subst e2
        exact absurd (List.any_eq_true.2 ⟨_, h2, Nat.beq_refl t⟩) hk
      · exact h1
theorem lkG {fr : Fr} {d t : Nat} {x : AV} (h : (fr.filter (fun p => !(p.1 == d))).lookup t = some x) : fr.lookup t = some x ∧ t ≠ d := by
  induction fr with
  | nil => simp at h
  | cons q fr ih =>
    obtain ⟨k, z⟩ := q
    rw [List.filter_cons] at h
    split at h
    · rename_i hk
      have hkd : k ≠ d := by simpa using hk
      rw [List.lookup_cons] at h ⊢
      split at h
      · rename_i e
        have : t = k := by simpa using e
        subst this
        exact ⟨h, hkd⟩
      · exact ih h
    · rename_i hk
      have hkd : k = d := by simpa using hk
      obtain ⟨h1, h2⟩ := ih h
      refine ⟨?_, h2⟩
      rw [List.lookup_cons]
      split
      · rename_i e
        have : t = k := by simpa using e
        subst this; exact absurd hkd h2
      · exact h1
theorem lkPutF {fr : Fr} {d : Option Nat} {t : Nat} {x y : AV} (h : (putF fr d x).lookup t = some y) : (d = some t ∧ y = x) ∨ (d ≠ some t ∧ fr.lookup t = some y) := by
  cases d with
  | none => exact .inr ⟨by simp, h⟩
  | some d =>
    simp only [putF, List.lookup_cons] at h
    split at h
    · rename_i e
      have : t = d := by simpa using e
      subst this
      injection h with h; exact .inl ⟨rfl, h.symm⟩
    · obtain ⟨h1, h2⟩ := lkG h
      exact .inr ⟨by simpa using fun e => h2 e.symm, h1⟩
def scA : AV → Bool
  | .c (.s _) => true
  | _ => false
/-- the free operations on the blurred heap; the store's type, place, value -/
def frS (T : Tab) (N : Nat) (Hb : Hp) (gl : Fr) : List Oper → Fr → Option (List Prop × Fr × Option (TypeId × AV × AV))
  | [], fr => some ([], fr, none)
  | o :: rest, fr => match o.guard with
    | some _ => none
    | none => match o.op with
      | .store t x y => (match o.dst, ev0 (opG [x, y] fr) gl x, ev0 (opG [x, y] fr) gl y, frS T N Hb gl rest fr with
        | none, some vx, some vy, some (g, fr2, none) => some (g, fr2, some (t, vx, vy))
        | _, _, _, _ => none)
      | op => match dOk N o.dst, vop T Hb (ev0 (opG op.operands.toList fr) gl) op with
        | true, some (g, z) => (match frS T N Hb gl rest (putF fr o.dst z) with | some (g2, fr2, st) => some (g ++ g2, fr2, st) | none => none)
        | _, _ => none
theorem FrR.put' {fr : Fr} {d : Option Nat} {x : AV} {v : Value} (h : FrR ρ fr a) (hv : avR ρ x v) (hd : dOk N d = true) (hn : a.tmps.size = N) : FrR ρ (putF fr d x) (a.put d v) :=
  putF_ok h hv (dOk_ok hd hn)
def XS (wA wB : World) (a b : World) : Prop := a = b ∨ (a = wA ∧ b = wB)
theorem XS.tr {wA wB a b c : World} (h1 : XS wA wB a b) (h2 : XS wA wB b c) : XS wA wB a c := by
  rcases h1 with rfl | ⟨rfl, rfl⟩
  · exact h2
  · rcases h2 with rfl | ⟨_, rfl⟩
    · exact .inr ⟨rfl, rfl⟩
    · exact .inr ⟨rfl, rfl⟩
theorem RW_frS (hT : TabOk P T) {Hb : Hp} {gl : Fr} {wA wB : World} {good : Prop} {t0 : TypeId} {vx0 vy0 : AV} (hgl : GlR bs ρ gl) (hpA : HpR ρ wA Hb) (hpB : HpR ρ wB Hb)
    (hrun : ∀ ux uy, avR ρ vx0 ux → avR ρ vy0 uy → good ∧ (Instr.storeAt t0 ux uy).run P wA = .ok () wB ∧ (Instr.storeAt t0 ux uy).run P wB = .ok () wB) {ops : Array Oper} {Q' : Act → World → Prop} {fr2 : Fr}
    (hQ : ∀ a, good → a.tmps.size = N → a.defers = [] → FrR ρ fr2 a → Q' a wB) (l : List Oper) :
    ∀ (fr : Fr) (E : Nat → Pred) (K : List (Option Tmp × Pred) → Prop) (g : List Prop) (st : Option (TypeId × AV × AV)), frS T N Hb gl l fr = some (g, fr2, st) → allP g → (∀ z, st = some z → z = (t0, vx0, vy0)) →
      (∀ t x, fr.lookup t = some x → ∀ v w, E t v w → avR ρ x v) →
      (∀ L, (∀ a w, XS wA wB wA w → a.tmps.size = N → a.defers = [] → FrR ρ fr a → (st = none → good ∧ w = wB) → Fin Q' L a w) → K L) → RW P ops (XS wA wB) wA l E K := by
  induction l with
  | nil =>
    intro fr E K g st h hg hst hE hK
    injection h with h; simp only [Prod.mk.injEq] at h; obtain ⟨rfl, rfl, rfl⟩ := h
    exact hK [] fun a w _ hn hd hF hs => by
      obtain ⟨h1, rfl⟩ := hs rfl
      exact hQ a h1 hn hd hF
  | cons o rest ih =>
    intro fr E K g st h hg hst hE hK
    obtain ⟨dst, op, ty, pos, aft, gd⟩ := o
    simp only [frS] at h
    cases gd with
    | some _ => simp at h
    | none =>
      simp only at h
      have wnt : ∀ y, Region.wanted (⟨dst, op, ty, pos, aft, none⟩ : Oper) y = true := fun y => rfl
      have look : ∀ {l : List Operand} {x : Operand} {av : AV}, (∀ z ∈ l, z ∈ op.operands.toList) → ev0 (opG l fr) gl x = some av → ∀ {a : Act} {w : World}, (∀ t ∈ (⟨dst, op, ty, pos, aft, none⟩ : Oper).looksAt ops, E t (a.tmps.getD t undef) w) → avR ρ av (a.eval x) := by
        intro l x av hl hx a w hEa
        cases x with
        | const c => exact cv_ok hx _
        | func f => injection hx with hx; subst hx; rfl
        | global gg => exact (glk_ok hx hgl).2
        | tmp t =>
          obtain ⟨h1, h2⟩ := opG_lk hx
          exact hE t av h1 _ w (hEa t (List.mem_append_left _ (List.mem_filterMap.2 ⟨.tmp t, by simpa using hl _ h2, rfl⟩)))
      have pureC : ∀ {g1 g2 : List Prop} {z : AV}, dOk N dst = true → vop T Hb (ev0 (opG op.operands.toList fr) gl) op = some (g1, z) → frS T N Hb gl rest (putF fr dst z) = some (g2, fr2, st) → g = g1 ++ g2 →
          RW P ops (XS wA wB) wA (⟨dst, op, ty, pos, aft, none⟩ :: rest) E K := by
        intro g1 g2 z hdk hv hr hge
        subst hge
        obtain ⟨ga, gb⟩ := allP_append.1 hg
        refine ⟨fun v _ => avR ρ z v, fun _ _ _ _ h => h, fun a w hX _ hEa => ?_, ih (putF fr dst z) _ _ g2 st hr gb hst (fun t x hx v w hv => ?_) (fun L hL => hK _ fun a w hX hn hd hF hs => fun v hv => hL _ w hX (by rw [put_size]; exact hn) (by rw [put_defers]; exact hd) (hF.put' hv hdk hn) hs)⟩
        · rw [wnt, if_pos rfl]
          have hp : HpR ρ w Hb := by
            rcases hX with rfl | ⟨_, rfl⟩
            · exact hpA
            · exact hpB
          obtain ⟨u, hru, hu⟩ := vop_ok hT hp (ev := a.eval) (fun x av hx => look (fun z hz => hz) hx hEa) hv ga dst ty pos aft none
          unfold Oper.wp
          rw [hru]
          exact ⟨u, rfl, .inl rfl, hu⟩
        · unfold Go.Ch.upd at hv
          cases hdd : dst with
          | none => rw [hdd] at hv hx; exact hE t x hx v w hv
          | some d =>
            rw [hdd] at hv hx
            have e : (if t = d then (fun v _ => avR ρ z v) else E t) v w := hv
            rcases lkPutF hx with ⟨h1, rfl⟩ | ⟨h1, h2⟩
            · injection h1 with h1; subst h1
              rw [if_pos rfl] at e
              exact e
            · rw [if_neg (fun e3 => h1 (by rw [e3]))] at e
              exact hE t x h2 v w e
      split at h
      · rename_i t x y
        split at h
        · rename_i vx vy g' fr2' hx hy hr
          injection h with h; simp only [Prod.mk.injEq] at h; obtain ⟨rfl, rfl, rfl⟩ := h
          have hz := hst _ rfl
          simp only [Prod.mk.injEq] at hz
          obtain ⟨rfl, rfl, rfl⟩ := hz
          refine ⟨fun _ w => good ∧ w = wB, fun _ w w' hX h => ⟨h.1, ?_⟩, fun a w hX _ hEa => ?_, ih fr _ _ g' none hr hg (fun z h => by cases h) (fun t x hx v w hv => hE t x hx v w hv) (fun L hL => hK _ fun a w hX hn hd hF _ => fun v hv => hL _ w hX hn hd hF (fun _ => hv))⟩
          · obtain ⟨_, rfl⟩ := h
            rcases hX with rfl | ⟨_, rfl⟩ <;> rfl
          · rw [wnt, if_pos rfl]
            have h1 := look (fun z hz => hz) hx hEa
            have h2 := look (fun z hz => hz) hy hEa
            obtain ⟨k0, k1, k2⟩ := hrun _ _ h1 h2
            have hw : (Instr.storeAt t (a.eval x) (a.eval y)).run P w = .ok () wB := by
              rcases hX with rfl | ⟨_, rfl⟩
              · exact k1
              · exact k2
            unfold Oper.wp
            have : (execOp a.eval ⟨none, .store t x y, ty, pos, aft, none⟩).run P w = .ok .skip wB := by simp [execOp, hw]
            rw [this]
            refine ⟨undef, rfl, ?_, k0, rfl⟩
            rcases hX with rfl | ⟨h3, rfl⟩
            · exact .inr ⟨rfl, rfl⟩
            · exact .inl rfl
        · cases h
      · split at h
        · rename_i g1 z hdk hv
          split at h
          · rename_i g2 fr2' st' hr
            injection h with h; simp only [Prod.mk.injEq] at h; obtain ⟨rfl, rfl, rfl⟩ := h
            exact pureC hdk hv hr rfl
          · cases h
        · cases h
theorem stA_at {H : Hp} {t : TypeId} {x y : AV} {i : Nat} {o : Oj} {cs : Cs} (hst : stA T H t x y = some (i, o, cs)) : H[i]? = some o := by
  unfold stA at hst
  split at hst
  · split at hst
    · rename_i o2 hl
      have := (live_ok hl).1
      split at hst
      · cases hst
      · repeat' split at hst
        all_goals first
          | (injection hst with hst; simp only [Prod.mk.injEq] at hst; obtain ⟨rfl, rfl, _⟩ := hst; exact this)
          | cases hst
    · cases hst
  · cases hst
/-- the state behind the free part -/
def freeT (T : Tab) (N k i0 : Nat) (ops : List Oper) (s : S) : Option (List Prop × S) := match s.H[i0]? with
  | some o => (match frS T N (s.H.set i0 (blur o)) s.gl (ops.take k) s.fr with
    | some (g, fr2, some (t, vx, vy)) => (match stA T s.H t vx vy with
      | some (i, o', cs') => (match Nat.beq i i0 && scA vy with
        | true => some (g, ⟨fr2, s.gl, s.H.set i { o' with cs := cs' }⟩)
        | false => none)
      | none => none)
    | _ => none)
  | none => none
def regT (T : Tab) (ft : Nat → FT) (N k i0 : Nat) (asm : List (Nat × Bool)) (cs : List Co) (live objs : List Nat) (ops : List Oper) (s : S) : Option (List Prop × S) :=
  match freeT T N k i0 ops s with
  | some (g, s1) => (match exR T ft N ops.toArray asm k (ops.drop k) s1 with
    | some (g2, s2) => (match after cs live objs s2 with | some s3 => some (g ++ g2, s3) | none => none)
    | none => none)
  | none => none
theorem W_regT (hT : TabOk P T) (hF : ∀ i, FtOk P (Kp bs w0) (ft i)) (hm : P.follows .mixedOrders = true) {id : Nat} {l : List Oper} (k i0 : Nat) (asm : List (Nat × Bool)) (cs : List Co) (live objs : List Nat) {g : List Prop} {s' : S}
    (hr : (okRegion l.toArray k N && decide (k ≤ l.length)) = true) (h : regT T ft N k i0 asm cs live objs l s = some (g, s')) (hg : allP g) {Q : Exit → S → Prop} (hQ : Q .normal s') :
    W P N bs w0 (.region id l.toArray true) s Q := by
  intro a w hR
  simp only [Bool.and_eq_true] at hr
  obtain ⟨hreg, hkl⟩ := hr
  unfold regT at h
  split at h
  · rename_i g1 s1 h1
    split at h
    · rename_i g2 s2 h2
      split at h
      · rename_i s3 h3
        injection h with h; simp only [Prod.mk.injEq] at h; obtain ⟨rfl, rfl⟩ := h
        obtain ⟨ga, gb⟩ := allP_append.1 hg
        unfold freeT at h1
        split at h1
        · rename_i o ho
          split at h1
          · rename_i g' fr2 t vx vy hfr
            split at h1
            · rename_i i o' cs' hst
              split at h1
              · rename_i hck
                simp only [Bool.and_eq_true] at hck
                obtain ⟨hii, hsc⟩ := hck
                have hii := Nat.eq_of_beq_eq_true hii
                subst hii
                injection h1 with h1; simp only [Prod.mk.injEq] at h1; obtain ⟨rfl, rfl⟩ := h1
                obtain ⟨r1, r2, ρ, r3⟩ := hR
                have r3d : RelA ρ bs w0 s a w.drew := ⟨r3.fr, r3.gl, fun i o ho => (r3.hp i o ho).keep fun _ _ _ => rfl, r3.sep, r3.own, r3.kp.drew⟩
                have hpA := blur_hp ho r3d.hp
                -- the store, if it is reached
                have hex : ∃ (wB : World) (good : Prop), HpR ρ wB (s.H.set i (blur o)) ∧ (good → RelA ρ bs w0 ⟨s.fr, s.gl, s.H.set i { o' with cs := cs' }⟩ a wB) ∧
                    ∀ ux uy, avR ρ vx ux → avR ρ vy uy → good ∧ (Instr.storeAt t ux uy).run P w.drew = .ok () wB ∧ (Instr.storeAt t ux uy).run P wB = .ok () wB := by
                  by_cases he : ∃ ux uy, avR ρ vx ux ∧ avR ρ vy uy
                  · obtain ⟨ux, uy, hx, hy⟩ := he
                    obtain ⟨wB, k1, k2, k3⟩ := stA_ok hT r3d hst hx hy
                    have hoo : o' = o := by have := stA_at hst; rw [ho] at this; injection this with this; exact this.symm
                    subst hoo
                    refine ⟨wB, True, blur_hp2 ho k2.hp, fun _ => k2, fun ux' uy' hx' hy' => ⟨True.intro, ?_⟩⟩
                    have e1 : ux' = ux := by
                      unfold stA at hst
                      split at hst
                      · obtain ⟨_, ad, hA, rfl⟩ := hx
                        obtain ⟨_, ad', hA', rfl⟩ := hx'
                        rw [hA] at hA'; injection hA' with hA'; subst hA'; rfl
                      · cases hst
                    have e2 : uy' = uy := by
                      unfold scA at hsc
                      split at hsc
                      · exact (show uy' = _ from hy').trans (show uy = _ from hy).symm
                      · cases hsc
                    subst e1; subst e2
                    exact ⟨k1, k3⟩
                  · exact ⟨w.drew, False, hpA, fun h => h.elim, fun ux uy hx hy => absurd ⟨ux, uy, hx, hy⟩ he⟩
                obtain ⟨wB, good, hpB, hrel, hrun⟩ := hex
                refine wp_region_rel k N (XS w.drew wB) hm hreg hkl r2 r1 (fun w => .inl rfl) (fun _ _ _ h1 h2 => XS.tr h1 h2) ?_
                refine RW_frS hT r3.gl hpA hpB hrun (Q' := fun a' w' => wpList P l.toArray (fun ex a' w' => ∃ s', Q ex s' ∧ Rel N bs w0 s' a' w') (l.drop k) a' w') (fun a' hgd hn hd hF' => ?_) (l.take k) s.fr _ _ _ _ hfr ga (fun z hz => by injection hz with hz; exact hz.symm) ?_ ?_
                · have hB := hrel hgd
                  exact exR_ok hT hF _ k g2 _ a' wB h2 gb ⟨hd, hn, ρ, hF', hB.gl, hB.hp, hB.sep, hB.own, hB.kp⟩ (fun a2 w2 hr => ⟨_, hQ, after_ok h3 hr⟩)
                · intro t x hx v w' hv
                  have hv' : v = a.tmps.getD t undef := hv
                  subst hv'
                  exact r3.fr t x hx
                · intro L hL w' hX
                  exact hL a w' hX r2 r1 r3.fr (fun h => by cases h)
              · cases h1
            · cases h1
          · cases h1
        · cases h1
      · cases h
    · cases h
  · cases h
end
end Go.Sx
