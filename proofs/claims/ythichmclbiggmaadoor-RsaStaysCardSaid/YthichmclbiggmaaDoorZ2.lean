import Derived.Test.YthichmclbiggmaaDoorZ1
import Derived.Lib.MakeNoZero
import Derived.Laws.Externs
import Derived.Test.YthichmclbiggmaaDoorProg
import Derived.Test.YthichmclbiggmaaDoorRows
import Derived.Test.YthichmclbiggmaaDoorChecked
import Derived.ProofKit
import Derived.LaidMore
import Derived.OpenShut
import Derived.Stop.Joined
set_option linter.unusedVariables false
set_option linter.unusedSimpArgs false
section
namespace Go.Sx
open Go.RowKit Go.Ch
section
variable {P : Program} {T : Tab} {ft : Nat → FT} {ρ : Pls} {w w' : World} {bs : Bs} {w0 wB : World} {s s' : S} {a : Act} {N m : Nat}
def blur (o : Oj) : Oj := { o with cs := .c (List.replicate (o.n * o.sz) .junk) }
theorem blur_ok {p : Pl} {o : Oj} (h : objR ρ w p o) : objR ρ w p (blur o) := by
 have key : ∀ (vs : List Value), o.cs.cl.length = o.n * o.sz → csR ρ o.cs vs → csR ρ (.c (List.replicate (o.n * o.sz) .junk)) vs := fun vs hl hv => by
  refine ⟨by rw [hv.len, hl]; simp [Cs.cl], fun j c v hc _ => ?_⟩
  have : c = .junk := by
   simp only [Cs.cl, List.getElem?_replicate] at hc
   split at hc
   ·injection hc with hc; exact hc.symm
   ·cases hc
  subst this; exact True.intro
 unfold objR at h ⊢
 unfold blur
 cases hk : o.kd with
 | dead => exact True.intro
 | ro fs => simp only [hk] at h ⊢; obtain ⟨⟨e1, e2, e3⟩, g1, vs, hc, hA⟩ := h; exact ⟨⟨e1, e2, by simp [Cs.cl]⟩, g1, vs, key vs e3 hc, hA⟩
 | row => simp only [hk] at h ⊢; obtain ⟨⟨e1, e2, e3⟩, vs, hc, hA⟩ := h; exact ⟨⟨e1, e2, by simp [Cs.cl]⟩, vs, key vs e3 hc, hA⟩
 | blk => simp only [hk] at h ⊢; obtain ⟨⟨e1, e2, e3⟩, b, vs, hA, hc, hB⟩ := h; exact ⟨⟨e1, e2, by simp [Cs.cl]⟩, b, vs, hA, key vs e3 hc, hB⟩
theorem blur_hp {H : Hp} {i : Nat} {o : Oj} (hi : H[i]? = some o) (h : HpR ρ w H) : HpR ρ w (H.set i (blur o)) := by
 intro j x hx
 rw [List.getElem?_set] at hx
 split at hx
 ·rename_i e
  subst e
  split at hx
  ·injection hx with hx; subst hx; exact blur_ok (h _ o hi)
  ·cases hx
 ·exact h j x hx
theorem blur_hp2 {H : Hp} {i : Nat} {o : Oj} {cs : Cs} (hi : H[i]? = some o) (h : HpR ρ w (H.set i { o with cs := cs })) : HpR ρ w (H.set i (blur o)) := by
 have hlt := (List.getElem?_eq_some_iff.1 hi).1
 have := blur_hp (i := i) (o := { o with cs := cs }) (by rw [List.getElem?_set]; simp [hlt]) h
 rwa [List.set_set] at this
def opG (l : List Operand) (fr : Fr) : Fr := fr.filter fun p => l.any fun x => match x with | .tmp t => Nat.beq t p.1 | _ => false
theorem opG_lk {l : List Operand} {fr : Fr} {t : Nat} {x : AV} (h : (opG l fr).lookup t = some x) : fr.lookup t = some x ∧ Operand.tmp t ∈ l := by
 unfold opG at h
 induction fr with
 | nil => simp at h
 | cons p fr ih =>
  obtain ⟨k, z⟩ := p
  rw [List.filter_cons] at h
  split at h
  ·rename_i hk
   rw [List.lookup_cons] at h ⊢
   split at h
   ·rename_i e
    have e2 : t = k := by simpa using e
    subst e2
    obtain ⟨y, hy, hy2⟩ := List.any_eq_true.1 hk
    cases y with
    | tmp t2 => have := Nat.eq_of_beq_eq_true hy2; simp only at this; subst this; exact ⟨h, hy⟩
    | _ => cases hy2
   ·exact ih h
  ·rename_i hk
   obtain ⟨h1, h2⟩ := ih h
   refine ⟨?_, h2⟩
   rw [List.lookup_cons]
   split
   ·rename_i e
    have e2 : t = k := by simpa using e
    subst e2
    exact absurd (List.any_eq_true.2 ⟨_, h2, Nat.beq_refl t⟩) hk
   ·exact h1
theorem lkG {fr : Fr} {d t : Nat} {x : AV} (h : (fr.filter (fun p => !(p.1 == d))).lookup t = some x) : fr.lookup t = some x ∧ t ≠ d := by
 induction fr with
 | nil => simp at h
 | cons q fr ih =>
  obtain ⟨k, z⟩ := q
  rw [List.filter_cons] at h
  split at h
  ·rename_i hk
   have hkd : k ≠ d := by simpa using hk
   rw [List.lookup_cons] at h ⊢
   split at h
   ·rename_i e
    have : t = k := by simpa using e
    subst this
    exact ⟨h, hkd⟩
   ·exact ih h
  ·rename_i hk
   have hkd : k = d := by simpa using hk
   obtain ⟨h1, h2⟩ := ih h
   refine ⟨?_, h2⟩
   rw [List.lookup_cons]
   split
   ·rename_i e
    have : t = k := by simpa using e
    subst this; exact absurd hkd h2
   ·exact h1
theorem lkPutF {fr : Fr} {d : Option Nat} {t : Nat} {x y : AV} (h : (putF fr d x).lookup t = some y) : (d = some t ∧ y = x) ∨ (d ≠ some t ∧ fr.lookup t = some y) := by
 cases d with
 | none => exact .inr ⟨by simp, h⟩
 | some d =>
  simp only [putF, List.lookup_cons] at h
  split at h
  ·rename_i e
   have : t = d := by simpa using e
   subst this
   injection h with h; exact .inl ⟨rfl, h.symm⟩
  ·obtain ⟨h1, h2⟩ := lkG h
   exact .inr ⟨by simpa using fun e => h2 e.symm, h1⟩
def scA : AV → Bool
 | .c (.s _) => true
 | _ => false
def frS (T : Tab) (N : Nat) (Hb : Hp) (gl : Fr) : List Oper → Fr → Option (List Prop × Fr × Option (TypeId × AV × AV))
 | [], fr => some ([], fr, none)
 | o :: rest, fr => match o.guard with
  | some _ => none
  | none => match o.op with
   | .store t x y => (match o.dst, ev0 (opG [x, y] fr) gl x, ev0 (opG [x, y] fr) gl y, frS T N Hb gl rest fr with
    | none, some vx, some vy, some (g, fr2, none) => some (g, fr2, some (t, vx, vy))
    | _, _, _, _ => none)
   | op => match dOk N o.dst, vop T Hb (ev0 (opG op.operands.toList fr) gl) op with
    | true, some (g, z) => (match frS T N Hb gl rest (putF fr o.dst z) with | some (g2, fr2, st) => some (g ++ g2, fr2, st) | none => none)
    | _, _ => none
theorem FrR.put' {fr : Fr} {d : Option Nat} {x : AV} {v : Value} (h : FrR ρ fr a) (hv : avR ρ x v) (hd : dOk N d = true) (hn : a.tmps.size = N) : FrR ρ (putF fr d x) (a.put d v) :=
 putF_ok h hv (dOk_ok hd hn)
def XS (wA wB : World) (a b : World) : Prop := a = b ∨ (a = wA ∧ b = wB)
theorem XS.tr {wA wB a b c : World} (h1 : XS wA wB a b) (h2 : XS wA wB b c) : XS wA wB a c := by
 rcases h1 with rfl | ⟨rfl, rfl⟩
 ·exact h2
 ·rcases h2 with rfl | ⟨_, rfl⟩
  ·exact .inr ⟨rfl, rfl⟩
  ·exact .inr ⟨rfl, rfl⟩
theorem RW_frS (hT : TabOk P T) {Hb : Hp} {gl : Fr} {wA wB : World} {good : Prop} {t0 : TypeId} {vx0 vy0 : AV} (hgl : GlR bs ρ gl) (hpA : HpR ρ wA Hb) (hpB : HpR ρ wB Hb)
  (hrun : ∀ ux uy, avR ρ vx0 ux → avR ρ vy0 uy → good ∧ (Instr.storeAt t0 ux uy).run P wA = .ok () wB ∧ (Instr.storeAt t0 ux uy).run P wB = .ok () wB) {ops : Array Oper} {Q' : Act → World → Prop} {fr2 : Fr}
  (hQ : ∀ a, good → a.tmps.size = N → a.defers = [] → FrR ρ fr2 a → Q' a wB) (l : List Oper) :
  ∀ (fr : Fr) (E : Nat → Pred) (K : List (Option Tmp × Pred) → Prop) (g : List Prop) (st : Option (TypeId × AV × AV)), frS T N Hb gl l fr = some (g, fr2, st) → allP g → (∀ z, st = some z → z = (t0, vx0, vy0)) →
   (∀ t x, fr.lookup t = some x → ∀ v w, E t v w → avR ρ x v) →
   (∀ L, (∀ a w, XS wA wB wA w → a.tmps.size = N → a.defers = [] → FrR ρ fr a → (st = none → good ∧ w = wB) → Fin Q' L a w) → K L) → RW P ops (XS wA wB) wA l E K := by
 induction l with
 | nil =>
  intro fr E K g st h hg hst hE hK
  injection h with h; simp only [Prod.mk.injEq] at h; obtain ⟨rfl, rfl, rfl⟩ := h
  exact hK [] fun a w _ hn hd hF hs => by
   obtain ⟨h1, rfl⟩ := hs rfl
   exact hQ a h1 hn hd hF
 | cons o rest ih =>
  intro fr E K g st h hg hst hE hK
  obtain ⟨dst, op, ty, pos, aft, gd⟩ := o
  simp only [frS] at h
  cases gd with
  | some _ => simp at h
  | none =>
   simp only at h
   have wnt : ∀ y, Region.wanted (⟨dst, op, ty, pos, aft, none⟩ : Oper) y = true := fun y => rfl
   have look : ∀ {l : List Operand} {x : Operand} {av : AV}, (∀ z ∈ l, z ∈ op.operands.toList) → ev0 (opG l fr) gl x = some av → ∀ {a : Act} {w : World}, (∀ t ∈ (⟨dst, op, ty, pos, aft, none⟩ : Oper).looksAt ops, E t (a.tmps.getD t undef) w) → avR ρ av (a.eval x) := by
    intro l x av hl hx a w hEa
    cases x with
    | const c => exact cv_ok hx _
    | func f => injection hx with hx; subst hx; rfl
    | global gg => exact (glk_ok hx hgl).2
    | tmp t =>
     obtain ⟨h1, h2⟩ := opG_lk hx
     exact hE t av h1 _ w (hEa t (List.mem_append_left _ (List.mem_filterMap.2 ⟨.tmp t, by simpa using hl _ h2, rfl⟩)))
   have pureC : ∀ {g1 g2 : List Prop} {z : AV}, dOk N dst = true → vop T Hb (ev0 (opG op.operands.toList fr) gl) op = some (g1, z) → frS T N Hb gl rest (putF fr dst z) = some (g2, fr2, st) → g = g1 ++ g2 →
     RW P ops (XS wA wB) wA (⟨dst, op, ty, pos, aft, none⟩ :: rest) E K := by
    intro g1 g2 z hdk hv hr hge
    subst hge
    obtain ⟨ga, gb⟩ := allP_append.1 hg
    refine ⟨fun v _ => avR ρ z v, fun _ _ _ _ h => h, fun a w hX _ hEa => ?_, ih (putF fr dst z) _ _ g2 st hr gb hst (fun t x hx v w hv => ?_) (fun L hL => hK _ fun a w hX hn hd hF hs => fun v hv => hL _ w hX (by rw [put_size]; exact hn) (by rw [put_defers]; exact hd) (hF.put' hv hdk hn) hs)⟩
    ·rw [wnt, if_pos rfl]
     have hp : HpR ρ w Hb := by
      rcases hX with rfl | ⟨_, rfl⟩
      ·exact hpA
      ·exact hpB
     obtain ⟨u, hru, hu⟩ := vop_ok hT hp (ev := a.eval) (fun x av hx => look (fun z hz => hz) hx hEa) hv ga dst ty pos aft none
     unfold Oper.wp
     rw [hru]
     exact ⟨u, rfl, .inl rfl, hu⟩
    ·unfold Go.Ch.upd at hv
     cases hdd : dst with
     | none => rw [hdd] at hv hx; exact hE t x hx v w hv
     | some d =>
      rw [hdd] at hv hx
      have e : (if t = d then (fun v _ => avR ρ z v) else E t) v w := hv
      rcases lkPutF hx with ⟨h1, rfl⟩ | ⟨h1, h2⟩
      ·injection h1 with h1; subst h1
       rw [if_pos rfl] at e
       exact e
      ·rw [if_neg (fun e3 => h1 (by rw [e3]))] at e
       exact hE t x h2 v w e
   split at h
   ·rename_i t x y
    split at h
    ·rename_i vx vy g' fr2' hx hy hr
     injection h with h; simp only [Prod.mk.injEq] at h; obtain ⟨rfl, rfl, rfl⟩ := h
     have hz := hst _ rfl
     simp only [Prod.mk.injEq] at hz
     obtain ⟨rfl, rfl, rfl⟩ := hz
     refine ⟨fun _ w => good ∧ w = wB, fun _ w w' hX h => ⟨h.1, ?_⟩, fun a w hX _ hEa => ?_, ih fr _ _ g' none hr hg (fun z h => by cases h) (fun t x hx v w hv => hE t x hx v w hv) (fun L hL => hK _ fun a w hX hn hd hF _ => fun v hv => hL _ w hX hn hd hF (fun _ => hv))⟩
     ·obtain ⟨_, rfl⟩ := h
      rcases hX with rfl | ⟨_, rfl⟩ <;> rfl
     ·rw [wnt, if_pos rfl]
      have h1 := look (fun z hz => hz) hx hEa
      have h2 := look (fun z hz => hz) hy hEa
      obtain ⟨k0, k1, k2⟩ := hrun _ _ h1 h2
      have hw : (Instr.storeAt t (a.eval x) (a.eval y)).run P w = .ok () wB := by
       rcases hX with rfl | ⟨_, rfl⟩
       ·exact k1
       ·exact k2
      unfold Oper.wp
      have : (execOp a.eval ⟨none, .store t x y, ty, pos, aft, none⟩).run P w = .ok .skip wB := by simp [execOp, hw]
      rw [this]
      refine ⟨undef, rfl, ?_, k0, rfl⟩
      rcases hX with rfl | ⟨h3, rfl⟩
      ·exact .inr ⟨rfl, rfl⟩
      ·exact .inl rfl
    ·cases h
   ·split at h
    ·rename_i g1 z hdk hv
     split at h
     ·rename_i g2 fr2' st' hr
      injection h with h; simp only [Prod.mk.injEq] at h; obtain ⟨rfl, rfl, rfl⟩ := h
      exact pureC hdk hv hr rfl
     ·cases h
    ·cases h
theorem stA_at {H : Hp} {t : TypeId} {x y : AV} {i : Nat} {o : Oj} {cs : Cs} (hst : stA T H t x y = some (i, o, cs)) : H[i]? = some o := by
 unfold stA at hst
 split at hst
 ·split at hst
  ·rename_i o2 hl
   have := (live_ok hl).1
   split at hst
   ·cases hst
   ·repeat' split at hst
    all_goals first
     | (injection hst with hst; simp only [Prod.mk.injEq] at hst; obtain ⟨rfl, rfl, _⟩ := hst; exact this)
     | cases hst
  ·cases hst
 ·cases hst
def freeT (T : Tab) (N k i0 : Nat) (ops : List Oper) (s : S) : Option (List Prop × S) := match s.H[i0]? with
 | some o => (match frS T N (s.H.set i0 (blur o)) s.gl (ops.take k) s.fr with
  | some (g, fr2, some (t, vx, vy)) => (match stA T s.H t vx vy with
   | some (i, o', cs') => (match Nat.beq i i0 && scA vy with
    | true => some (g, ⟨fr2, s.gl, s.H.set i { o' with cs := cs' }⟩)
    | false => none)
   | none => none)
  | _ => none)
 | none => none
def regT (T : Tab) (ft : Nat → FT) (N k i0 : Nat) (asm : List (Nat × Bool)) (cs : List Co) (live objs : List Nat) (ops : List Oper) (s : S) : Option (List Prop × S) :=
 match freeT T N k i0 ops s with
 | some (g, s1) => (match exR T ft N ops.toArray asm k (ops.drop k) s1 with
  | some (g2, s2) => (match after cs live objs s2 with | some s3 => some (g ++ g2, s3) | none => none)
  | none => none)
 | none => none
theorem W_regT (hT : TabOk P T) (hF : ∀ i, FtOk P (Kp bs w0) (ft i)) (hm : P.follows .mixedOrders = true) {id : Nat} {l : List Oper} (k i0 : Nat) (asm : List (Nat × Bool)) (cs : List Co) (live objs : List Nat) {g : List Prop} {s' : S}
  (hr : (okRegion l.toArray k N && decide (k ≤ l.length)) = true) (h : regT T ft N k i0 asm cs live objs l s = some (g, s')) (hg : allP g) {Q : Exit → S → Prop} (hQ : Q .normal s') :
  W P N bs w0 (.region id l.toArray true) s Q := by
 intro a w hR
 simp only [Bool.and_eq_true] at hr
 obtain ⟨hreg, hkl⟩ := hr
 unfold regT at h
 split at h
 ·rename_i g1 s1 h1
  split at h
  ·rename_i g2 s2 h2
   split at h
   ·rename_i s3 h3
    injection h with h; simp only [Prod.mk.injEq] at h; obtain ⟨rfl, rfl⟩ := h
    obtain ⟨ga, gb⟩ := allP_append.1 hg
    unfold freeT at h1
    split at h1
    ·rename_i o ho
     split at h1
     ·rename_i g' fr2 t vx vy hfr
      split at h1
      ·rename_i i o' cs' hst
       split at h1
       ·rename_i hck
        simp only [Bool.and_eq_true] at hck
        obtain ⟨hii, hsc⟩ := hck
        have hii := Nat.eq_of_beq_eq_true hii
        subst hii
        injection h1 with h1; simp only [Prod.mk.injEq] at h1; obtain ⟨rfl, rfl⟩ := h1
        obtain ⟨r1, r2, ρ, r3⟩ := hR
        have r3d : RelA ρ bs w0 s a w.drew := ⟨r3.fr, r3.gl, fun i o ho => (r3.hp i o ho).keep fun _ _ _ => rfl, r3.sep, r3.own, r3.kp.drew⟩
        have hpA := blur_hp ho r3d.hp
        -- the store, if it is reached
        have hex : ∃ (wB : World) (good : Prop), HpR ρ wB (s.H.set i (blur o)) ∧ (good → RelA ρ bs w0 ⟨s.fr, s.gl, s.H.set i { o' with cs := cs' }⟩ a wB) ∧
          ∀ ux uy, avR ρ vx ux → avR ρ vy uy → good ∧ (Instr.storeAt t ux uy).run P w.drew = .ok () wB ∧ (Instr.storeAt t ux uy).run P wB = .ok () wB := by
         by_cases he : ∃ ux uy, avR ρ vx ux ∧ avR ρ vy uy
         ·obtain ⟨ux, uy, hx, hy⟩ := he
          obtain ⟨wB, k1, k2, k3⟩ := stA_ok hT r3d hst hx hy
          have hoo : o' = o := by have := stA_at hst; rw [ho] at this; injection this with this; exact this.symm
          subst hoo
          refine ⟨wB, True, blur_hp2 ho k2.hp, fun _ => k2, fun ux' uy' hx' hy' => ⟨True.intro, ?_⟩⟩
          have e1 : ux' = ux := by
           unfold stA at hst
           split at hst
           ·obtain ⟨_, ad, hA, rfl⟩ := hx
            obtain ⟨_, ad', hA', rfl⟩ := hx'
            rw [hA] at hA'; injection hA' with hA'; subst hA'; rfl
           ·cases hst
          have e2 : uy' = uy := by
           unfold scA at hsc
           split at hsc
           ·exact (show uy' = _ from hy').trans (show uy = _ from hy).symm
           ·cases hsc
          subst e1; subst e2
          exact ⟨k1, k3⟩
         ·exact ⟨w.drew, False, hpA, fun h => h.elim, fun ux uy hx hy => absurd ⟨ux, uy, hx, hy⟩ he⟩
        obtain ⟨wB, good, hpB, hrel, hrun⟩ := hex
        refine wp_region_rel k N (XS w.drew wB) hm hreg hkl r2 r1 (fun w => .inl rfl) (fun _ _ _ h1 h2 => XS.tr h1 h2) ?_
        refine RW_frS hT r3.gl hpA hpB hrun (Q' := fun a' w' => wpList P l.toArray (fun ex a' w' => ∃ s', Q ex s' ∧ Rel N bs w0 s' a' w') (l.drop k) a' w') (fun a' hgd hn hd hF' => ?_) (l.take k) s.fr _ _ _ _ hfr ga (fun z hz => by injection hz with hz; exact hz.symm) ?_ ?_
        ·have hB := hrel hgd
         exact exR_ok hT hF _ k g2 _ a' wB h2 gb ⟨hd, hn, ρ, hF', hB.gl, hB.hp, hB.sep, hB.own, hB.kp⟩ (fun a2 w2 hr => ⟨_, hQ, after_ok h3 hr⟩)
        ·intro t x hx v w' hv
         have hv' : v = a.tmps.getD t undef := hv
         subst hv'
         exact r3.fr t x hx
        ·intro L hL w' hX
         exact hL a w' hX r2 r1 r3.fr (fun h => by cases h)
       ·cases h1
      ·cases h1
     ·cases h1
    ·cases h1
   ·cases h
  ·cases h
 ·cases h
end
end Go.Sx
end
section
namespace Go.Sx
open Go.RowKit Go.Ch
section
variable {P : Program} {T : Tab} {ρ ρ' : Pls} {w w' : World} {bs : Bs} {w0 : World} {s s' : S} {a : Act} {N : Nat}
theorem GlR.cons {gl : Fr} {x : AV} (j : Nat) (hx : avR ρ x (bs.gv j)) (h : GlR bs ρ gl) : GlR bs ρ ((1000000 + j, x) :: gl) := by
 intro t y hy
 rw [List.lookup_cons] at hy
 split at hy
 ·rename_i e
  have e : t = 1000000 + j := by simpa using e
  subst e
  injection hy with hy; subst hy
  unfold gvOf
  rw [if_neg (by omega), Nat.add_sub_cancel_left]
  exact hx
 ·exact h t y hy
def subC (lo n : Nat) : AV → Option AV
 | .c (.wh i) => some (.c (.sl i lo n))
 | .c (.sl i l0 _) => some (.c (.sl i (oddA l0 lo) n))
 | _ => none
def Sz1 (ρ : Pls) (x : AV) : Prop := ∀ i, (x = .c (.wh i) ∨ ∃ l0 n0, x = .c (.sl i l0 n0)) → (ρ i).sz = 1
theorem sz_live {H : Hp} (hp : HpR ρ w H) {i : Nat} {o : Oj} (h : liveS H i = some o) (h1 : o.sz = 1) : (ρ i).sz = 1 := by
 obtain ⟨h2, h3⟩ := liveS_ok h
 obtain ⟨⟨e1, _⟩, _⟩ := (hp i o h2).read (nd h3)
 rw [e1, h1]
theorem vcs_sz {H : Hp} (hp : HpR ρ w H) {c : Cl} {n : Nat} {cs : Cs} (h : vcs H c = some (1, n, cs)) : Sz1 ρ (.c c) := by
 intro i hi
 rcases hi with e | ⟨l0, n0, e⟩
 ·injection e with e; subst e
  simp only [vcs] at h
  split at h
  ·rename_i o ho; injection h with h; simp only [Prod.mk.injEq] at h; exact sz_live hp ho h.1
  ·cases h
 ·injection e with e; subst e
  simp only [vcs] at h
  split at h
  ·rename_i o ho; injection h with h; simp only [Prod.mk.injEq] at h; exact sz_live hp ho h.1
  ·cases h
theorem aB_sz {H : Hp} (hp : HpR ρ w H) {x : AV} {l : List UInt8} (h : aB H x = some l) : Sz1 ρ x := by
 intro i hi
 rcases hi with e | ⟨l0, n0, e⟩
 ·subst e
  simp only [aB, viewB] at h
  split at h
  ·rename_i o ho; split at h
   ·rename_i h1 _; exact sz_live hp ho h1
   ·cases h
  ·cases h
 ·subst e
  simp only [aB, viewB] at h
  split at h
  ·rename_i o ho; split at h
   ·rename_i h1 _; exact sz_live hp ho h1
   ·cases h
  ·cases h
theorem aW_sz {H : Hp} (hp : HpR ρ w H) {x : AV} {l : List UInt32} (h : aW H x = some l) : Sz1 ρ x := by
 cases x with
 | c c =>
  simp only [aW, viewW] at h
  split at h
  ·rename_i n l' hv; exact vcs_sz hp hv
  ·split at h
   ·intro i hi; rcases hi with e | ⟨_, _, e⟩ <;> cases e
   ·cases h
 | _ => cases h
theorem aZ_sz {H : Hp} (hp : HpR ρ w H) {x : AV} {l : List Int} (h : aZ H x = some l) : Sz1 ρ x := by
 cases x with
 | c c =>
  simp only [aZ, viewZ] at h
  split at h
  ·rename_i n l' hv; exact vcs_sz hp hv
  ·split at h
   ·intro i hi; rcases hi with e | ⟨_, _, e⟩ <;> cases e
   ·cases h
 | _ => cases h
theorem retB_ok {gv : Nat → Value} (hR : Rel N (noB gv) w s a w') {fn : Func} {t : Nat} (hf : fn.results = #[.tmp t]) {k lo n q : Nat} (hfr : s.fr.lookup t = some (.c (.sl k lo n))) (hgl : s.gl.lookup (1000000 + q) = some (.c (.wh k)))
  (hsz : (liveS s.H k).map (·.sz) = some 1) {ρ0 : Pls} {H : Hp} {x y : AV} (hx : avR ρ0 x (gv q)) (hz : Sz1 ρ0 x) (hy : subC lo n x = some y) :
  ∃ v, (results fn a.tmps).run P w' = .ok v w' ∧ Ext w w' ∧ ∃ ps, Left ρ0 w H y [] v w' ps := by
 obtain ⟨_, _, ρ, hr⟩ := hR
 have hv := hr.fr t _ hfr
 have hg := hr.gl _ _ hgl
 have hgv : gvOf (noB gv) (1000000 + q) = gv q := by
  unfold gvOf; rw [if_neg (by omega), Nat.add_sub_cancel_left]; rfl
 rw [hgv] at hg
 obtain ⟨o, ho, ho1⟩ : ∃ o, liveS s.H k = some o ∧ o.sz = 1 := by
  cases hl : liveS s.H k with
  | none => rw [hl] at hsz; cases hsz
  | some o => rw [hl] at hsz; injection hsz with hsz; exact ⟨o, rfl, hsz⟩
 have hs := sz_live hr.hp ho ho1
 obtain ⟨k1, A, c, hA, k2, k3, k4, k5⟩ := hv
 have hg' : gv q = .slice (ρ k).A (ρ k).n (ρ k).cap := hg
 refine ⟨_, results_tmp hf _ _ _, hr.kp.below, [], rfl, fun j o p ho => by simp at ho, ?_, fun j o p g ho => by simp at ho, fun j l o o' p p' g hjl ho => by simp at ho⟩
 have hu : updL ρ0 H.length [] = ρ0 := by funext i; unfold updL; split <;> simp
 rw [hu]
 unfold subC at hy
 split at hy
 ·rename_i i
  injection hy with hy; subst hy
  have hx' : gv q = .slice (ρ0 i).A (ρ0 i).n (ρ0 i).cap := hx
  rw [hg'] at hx'
  injection hx' with e1 e2 e3
  have h1 := hz i (.inl rfl)
  show clR ρ0 (.sl i lo n) _
  exact ⟨by omega, A, c, hA, k2, k3, k4, fun h => by rw [k5 h, hs, e1, h1]⟩
 ·rename_i i l0 n0
  injection hy with hy; subst hy
  obtain ⟨m1, A', c', hA', m2, m3, m4, m5⟩ := hx
  rw [hg'] at hA'
  injection hA' with e1 e2 e3
  have h1 := hz i (.inr ⟨l0, n0, rfl⟩)
  have ho : oddA l0 lo = l0 + lo := oddA_eq l0 lo
  show clR ρ0 (.sl i (oddA l0 lo) n) _
  rw [ho]
  refine ⟨by omega, A, c, hA, k2, k3, k4, fun h => ?_⟩
  rw [k5 h, hs, e1, m5 (by omega), h1]
  cases (ρ0 i).A with
  | none => rfl
  | some ad => simp [add_add]
 ·cases hy
end
end Go.Sx
end
section
namespace Go.Ch
open Go.RowKit
section
variable {P : Program} {ops : Array Oper} {X : World → World → Prop} {w0 : World}
def okRegionL (ops : Array Oper) (k n : Nat) (late : List Nat) : Bool :=
 (List.range ops.size).all fun i => match ops[i]? with
  | none => false
  | some o =>
   okEdges o (fun j => decide (j < i)) &&
   (if i < k then
    (match o.dst with | some d => decide (d < n) | none => true) &&
    ((List.range k).all fun j => match ops[j]? with
     | none => false
     | some oj =>
      (match o.dst, oj.dst with | some d, some d' => i == j || d != d' | _, _ => true) &&
      ((o.looksAt ops).all fun t => oj.dst != some t || (decide (j < i) && hasEdge o j) || (decide (i < j) && hasEdge oj i)))
    else (List.range i).all fun j => hasEdge o j || (decide (j < k) && ((i == k && late.contains j) || inC ops i ops.size j)))
def chainB (ops : Array Oper) : List Nat → Bool
 | d :: d' :: l => hasE ops d' d && chainB ops (d' :: l)
 | _ => true
theorem OkR.ofL {k n : Nat} {late : List Nat} (h : okRegionL ops k n late = true) (hk : k ≤ ops.size) : OkR ops k n := by
 unfold okRegionL at h
 rw [List.all_eq_true] at h
 have H : ∀ i o, ops[i]? = some o → _ := fun i o ho => by
  have hi := (Array.getElem?_eq_some_iff.1 ho).1
  have := h i (List.mem_range.2 hi)
  rw [ho] at this
  simp only [Bool.and_eq_true] at this
  exact this
 have G : ∀ i o, i < k → ops[i]? = some o → _ := fun i o hi ho => by
  have := (H i o ho).2
  rw [if_pos hi] at this
  simp only [Bool.and_eq_true, List.all_eq_true, List.mem_range] at this
  exact this
 refine ⟨fun i o ho => (H i o ho).1, fun i o d hi ho hd => ?_, fun i j o oj d hi hj hne ho hoj hd hd' => ?_, fun i j o oj t hi hj ho hoj ht hd => ?_, fun i o hi ho j hkj hj => ?_⟩
 ·have := (G i o hi ho).1
  rw [hd] at this
  simpa using this
 ·have := (G i o hi ho).2 j hj
  rw [hoj] at this
  simp only [hd, hd', Bool.and_eq_true, Bool.or_eq_true, beq_iff_eq, bne_self_eq_false, Bool.false_eq_true, or_false] at this
  exact hne this.1
 ·have := (G i o hi ho).2 j hj
  rw [hoj] at this
  simp only [Bool.and_eq_true, List.all_eq_true] at this
  have h2 := this.2 t ht
  rw [hd] at h2
  simpa [Bool.or_eq_true] using h2
 ·have := (H i o ho).2
  rw [if_neg (by omega)] at this
  rw [List.all_eq_true] at this
  have h3 := this j (List.mem_range.2 hj)
  simp only [Bool.or_eq_true, Bool.and_eq_true, decide_eq_true_eq] at h3
  rcases h3 with h3 | h3
  ·exact h3
  ·omega
theorem okR_tailL {k n : Nat} {late : List Nat} (h : okRegionL ops k n late = true) : ∀ i o, k ≤ i → ops[i]? = some o → ∀ j < i, hasEdge o j = true ∨ (i = k ∧ j ∈ late) ∨ inC ops i ops.size j = true := by
 unfold okRegionL at h
 rw [List.all_eq_true] at h
 intro i o hi ho j hj
 have h1 := h i (List.mem_range.2 (Array.getElem?_eq_some_iff.1 ho).1)
 rw [ho] at h1
 simp only [Bool.and_eq_true] at h1
 have h2 := h1.2
 rw [if_neg (by omega), List.all_eq_true] at h2
 have h3 := h2 j (List.mem_range.2 hj)
 simp only [Bool.or_eq_true, Bool.and_eq_true, beq_iff_eq, List.contains_iff_mem] at h3
 rcases h3 with h3 | ⟨_, h4 | h4⟩
 ·exact .inl h3
 ·exact .inr (.inl h4)
 ·exact .inr (.inr h4)
theorem chain_end {listed : Array Bool} (hcl : ∀ j o, ops[j]? = some o → listed.getD j true = true → okEdges o (fun e => listed.getD e false) = true) (hs : listed.size = ops.size) :
  ∀ (late : List Nat), chainB ops late = true → (∀ d ∈ late, d < ops.size) → ∃ s, s ≤ late.length ∧ (∀ d ∈ late.take s, listed.getD d true = true) ∧ (∀ d ∈ late.drop s, listed.getD d true = false)
 | [], _, _ => ⟨0, Nat.le_refl _, by simp, by simp⟩
 | d :: l, h, hd => by
  have hl : chainB ops l = true := by
   cases l with
   | nil => rfl
   | cons d' l => simp only [chainB, Bool.and_eq_true] at h; exact h.2
  obtain ⟨s, h1, h2, h3⟩ := chain_end hcl hs l hl (fun x hx => hd x (List.mem_cons_of_mem _ hx))
  cases hdl : listed.getD d true with
  | true => exact ⟨s + 1, by simp; omega, fun x hx => by
    simp only [List.take_succ_cons, List.mem_cons] at hx
    rcases hx with rfl | hx
    ·exact hdl
    ·exact h2 x hx, fun x hx => by simpa using h3 x (by simpa using hx)⟩
  | false =>
   -- then all behind it is to come, too
   have key : ∀ (m : List Nat) (d : Nat), chainB ops (d :: m) = true → (∀ x ∈ d :: m, x < ops.size) → listed.getD d true = false → ∀ x ∈ m, listed.getD x true = false := by
    intro m
    induction m with
    | nil => intro _ _ _ _ x hx; cases hx
    | cons d' m ih =>
     intro d hc hsz hdd x hx
     simp only [chainB, Bool.and_eq_true] at hc
     have hd' : listed.getD d' true = false := by
      cases hh : listed.getD d' true with
      | false => rfl
      | true =>
       have hh2 := hc.1
       unfold hasE at hh2
       split at hh2
       ·rename_i o ho
        have h5 := hcl d' o ho hh
        unfold okEdges at h5
        unfold hasEdge at hh2
        obtain ⟨e, he, hb⟩ := Array.any_eq_true'.1 hh2
        have h6 := Array.all_eq_true'.1 h5 e he
        simp only [Bool.and_eq_true, beq_iff_eq] at hb
        rw [hb.1, hb.2] at h6
        simp only [Bool.not_true, Bool.false_or] at h6
        have hds : d < listed.size := by rw [hs]; exact hsz d (by simp)
        simp only [Array.getD_eq_getD_getElem?, Array.getElem?_eq_getElem hds, Option.getD_some] at h6 hdd
        rw [h6] at hdd; cases hdd
       ·cases hh2
     rcases List.mem_cons.1 hx with rfl | hx
     ·exact hd'
     ·exact ih d' hc.2 (fun y hy => hsz y (List.mem_cons_of_mem _ hy)) hd' x hx
   exact ⟨0, by simp, by simp, fun x hx => by
    rcases List.mem_cons.1 (by simpa using hx) with rfl | hx
    ·exact hdl
    ·exact key l d h hd hdl x hx⟩
def maskL (k n : Nat) (S : List Nat) : Array Bool := (Array.range n).map fun j => decide (j < k) && !S.contains j
theorem wp_region_rel_l {Q : Exit → Act → World → Prop} {id : Nat} {a0 : Act} {w : World} (k n : Nat) (late : List Nat) (X : World → World → Prop) (hm : P.follows .mixedOrders = true)
  (hok : okRegionL ops k n late = true) (hch : chainB ops late = true) (hk : (decide (k < ops.size) && late.all (fun d => decide (d < k))) = true)
  (hfo : ((List.range late.length).all fun s => forcedB ops ((maskL k ops.size (late.drop s)).setIfInBounds k true) (late.drop s ++ (List.range ops.size).drop (k + 1)) && decide ((late.drop s).length ≤ cnt (fun j => (maskL k ops.size (late.drop s)).getD j true) k)) = true)
  (hn : a0.tmps.size = n) (hd0 : a0.defers = []) (hXr : ∀ a, X a a) (hXt : ∀ a b c, X a b → X b c → X a c)
  (h : RW P ops X w.drew (ops.toList.take k) (E0 a0) (fun L => (∀ w', X w.drew w' → Fin (fun a w => wpList P ops Q (ops.toList.drop k) a w) L a0 w') ∧
   (∀ s, s < late.length → ∀ w', X w.drew w' → FinM (fun a w => wpList P ops Q ((k :: late.drop s ++ (List.range ops.size).drop (k + 1)).filterMap (ops[·]?)) a w) (fun j => !(late.drop s).contains j) 0 L a0 w'))) :
  (Code.region id ops true).wp P Q a0 w := by
 simp only [Bool.and_eq_true, decide_eq_true_eq, List.all_eq_true] at hk
 obtain ⟨hk1, hdk⟩ := hk
 have hk' : k ≤ ops.size := Nat.le_of_lt hk1
 have hok' := OkR.ofL hok hk'
 obtain ⟨L, hLl, ⟨hK, hK2⟩, hL⟩ := RW_list _ _ _ h
 have hLk : L.length = k := by rw [hLl]; simp [hk']
 have hL' : ∀ (i : Nat) (o : Oper) (p : Option Tmp × Pred), i < k → ops[i]? = some o → L[i]? = some p → p.1 = o.dst ∧ (∀ v w w', X w w' → p.2 v w → p.2 v w') ∧ Ob P ops X w.drew o (Ecum (E0 a0) (L.take i)) p.2 :=
  fun i o p hi ho hp => hL i o p (by rw [List.getElem?_take, if_pos hi]; simpa using ho) hp
 have hdst : ∀ (i : Nat) (p : Option Tmp × Pred), L[i]? = some p → p.1 = (ops[i]?).bind (·.dst) := fun i p hp => by
  have hi : i < k := by rw [← hLk]; exact (List.getElem?_eq_some_iff.1 hp).1
  have ho : ops[i]? = some ops[i] := Array.getElem?_eq_getElem (by omega)
  rw [(hL' i _ p hi ho hp).1, ho]; rfl
 refine wp_region_any hm ?_
 refine any_rel (k := k) (n := n) (X := X) (w0 := w.drew) a0 hok' hk' hn hd0 hXr hXt L hLk hL' (fun vals w' hX hv => ?_) (fun i o listed vals w' f hki ho hs hsuf h2 hcl hex hf hcf hX hv => ?_) ops.size _ a0 _ (by simp) (fun i hi hi' d => by simp [hi']) (fun j o ho hl => ?_) ?_ (hXr _) ⟨fun _ => undef, ?_, fun j p hj hl => ?_⟩
 ·have := Fin_framed (ops := ops) L a0 hdst hv (hK w' hX) k (by omega)
  rw [show L.drop k = [] from List.drop_of_length_le (by omega)] at this
  exact this
 ·-- the late one is still to come
  have hopen : ∀ j < i, listed.getD j true = false → ¬ hasEdge o j = true := by
   intro j hj hlj hedge
   have hin := (Array.getElem?_eq_some_iff.1 ho).1
   unfold okEdges at h2
   unfold hasEdge at hedge
   obtain ⟨x, hx, hb⟩ := Array.any_eq_true'.1 hedge
   have := Array.all_eq_true'.1 h2 x hx
   simp only [Bool.and_eq_true, beq_iff_eq] at hb
   rw [hb.1, hb.2] at this
   simp only [Bool.not_true, Bool.false_or] at this
   simp only [Array.getD_eq_getD_getElem?, Array.getElem?_eq_getElem (show j < listed.size by omega), Option.getD_some] at this hlj
   rw [this] at hlj; cases hlj
  obtain ⟨i', hi', h1'⟩ := hex
  have hnoC : ∀ j < i, listed.getD j true = false → ¬ inC ops i ops.size j = true := by
   intro j hj hlj hc
   have hin := (Array.getElem?_eq_some_iff.1 ho).1
   have := inC_ok hcl hs ho h2 _ _ hc
   simp only [Array.getD_eq_getD_getElem?, Array.getElem?_eq_getElem (show j < listed.size by omega), Option.getD_some] at this hlj
   rw [this] at hlj; cases hlj
  have hin' : ∀ j < i, listed.getD j true = false → i = k ∧ j ∈ late := fun j hj hlj => by
   rcases okR_tailL hok i o hki ho j hj with h3 | h3 | h3
   ·exact absurd h3 (hopen j hj hlj)
   ·exact h3
   ·exact absurd h3 (hnoC j hj hlj)
  have hik : i = k := (hin' i' (by omega) h1').1
  subst hik
  obtain ⟨s, hsl, ht1, ht2⟩ := chain_end hcl hs late hch (fun d hd => by have := hdk d hd; omega)
  have hs' : s < late.length := by
   rcases Nat.lt_or_ge s late.length with h3 | h3
   ·exact h3
   ·have hm := (hin' i' hi' h1').2
    rw [← List.take_of_length_le h3] at hm
    rw [ht1 i' hm] at h1'; cases h1'
  generalize hS : late.drop s = S at *
  have hrest : ∀ j < i, j ∉ S → listed.getD j true = true := by
   intro j hj hne
   cases hlj : listed.getD j true
   ·have hm := (hin' j hj hlj).2
    rw [← List.take_append_drop s late, List.mem_append, hS] at hm
    rcases hm with hm | hm
    ·rw [ht1 j hm] at hlj; cases hlj
    ·exact absurd hm hne
   ·rfl
  have hmask : listed = maskL i ops.size S := by
   apply Array.ext
   ·simp [maskL, hs]
   ·intro j hj1 hj2
    have hjn : j < ops.size := by omega
    have hg : listed[j] = listed.getD j true := by simp [hj1]
    rw [hg]
    simp only [maskL, Array.getElem_map, Array.getElem_range]
    rcases Nat.lt_or_ge j i with hlt | hge
    ·by_cases e : j ∈ S
     ·rw [ht2 j e]; simp [e]
     ·rw [hrest j hlt e]; simp [hlt, e]
    ·rw [hsuf j hge hjn true]; simp; omega
  have hfr : (framed ops (fun j => listed.getD j true) vals i a0) = framed ops (fun j => !S.contains j) vals i a0 := by
   apply framed_congr
   intro j hj
   refine ⟨?_, fun _ => rfl⟩
   by_cases e : j ∈ S
   ·rw [ht2 j e]; simp [e]
   ·rw [hrest j hj e]; simp [e]
  have hK2s := hK2 s hs'
  rw [hS] at hK2s
  have hfos := (List.all_eq_true.1 hfo) s (List.mem_range.2 hs')
  rw [hS] at hfos
  simp only [Bool.and_eq_true, decide_eq_true_eq] at hfos
  obtain ⟨hfos, hcnt⟩ := hfos
  have hw2 := FinM_framed (ops := ops) (vals := vals) (w := w') (mk := fun j => !S.contains j) L a0 hdst (fun j p hmk hp => by
   have hj : j < i := by rw [← hLk]; exact (List.getElem?_eq_some_iff.1 hp).1
   exact hv j p hj (hrest j hj (by simpa using hmk)) hp) (hK2s w' hX) i (by omega)
  rw [show L.drop i = [] from List.drop_of_length_le (by omega)] at hw2
  have hw3 : wpList P ops Q ((i :: S ++ (List.range ops.size).drop (i + 1)).filterMap (ops[·]?)) (framed ops (fun j => !S.contains j) vals i a0) w' := hw2
  rw [hfr]
  unfold wpOp
  rw [ho]
  show if Region.wanted o (yielded ops _) = true then _ else _
  simp only [List.cons_append, List.filterMap_cons, ho] at hw3
  have hSl : S.length ≤ cnt (fun j => listed.getD j true) i := by rw [hmask]; exact hcnt
  have hnext := fun a' w'' hh => wpAny_forced (P := P) (Q := Q) (S ++ (List.range ops.size).drop (i + 1)) (listed.setIfInBounds i true) f a' w'' (by rw [hmask]; exact hfos) (by simp; omega) hh
  simp only [wpList] at hw3
  split at hw3
  ·rename_i hwant
   rw [if_pos hwant]
   rcases hw3 with hw3 | hw3
   ·exact .inl (Oper.wp_mono (fun a' w'' hh => hnext a' w'' hh) hw3)
   ·exact .inr hw3
  ·rename_i hwant
   rw [if_neg hwant]
   exact hnext _ _ hw3
 ·have := (Array.getElem?_eq_some_iff.1 ho).1
  simp [this] at hl
 ·have : ∀ m, m ≤ ops.size → cnt (fun j => (Array.replicate ops.size false).getD j true) m = m := by
   intro m
   induction m with
   | zero => intro _; rfl
   | succ m ih => intro hm; simp only [cnt]; rw [ih (by omega)]; simp [show m < ops.size by omega]; omega
  rw [this k hk']; omega
 ·have : ∀ m, m ≤ ops.size → framed ops (fun j => (Array.replicate ops.size false).getD j true) (fun _ => undef) m a0 = a0 := by
   intro m
   induction m with
   | zero => intro _; rfl
   | succ m ih => intro hm; simp only [framed]; rw [ih (by omega)]; simp [show m < ops.size by omega]
  exact (this k hk').symm
 ·simp [show j < ops.size by omega] at hl
end
end Go.Ch
end
section
namespace Go.Sx
open Go.RowKit Go.Ch
section
variable {P : Program} {T : Tab} {ft : Nat → FT} {ρ ρ' : Pls} {w w' : World} {bs : Bs} {w0 wB : World} {s s' : S} {a : Act} {N m : Nat}
theorem fin_step {Q : Act → World → Prop} {mk : Nat → Bool} {i : Nat} {d : Option Tmp} {R : Pred} {L : List (Option Tmp × Pred)} {a : Act} {w : World} {D : List Nat} (hD : mk i = false → ∃ x, d = some x ∧ x ∈ D)
  (h1 : ∀ v, R v w → FinM Q mk (i + 1) L (a.put d v) w) (h2 : ∀ x, d = some x → x ∈ D → FinM Q mk (i + 1) L a w) : FinM Q mk i ((d, R) :: L) a w := by
 unfold FinM
 cases hm : mk i with
 | true => rw [if_pos rfl]; exact h1
 | false =>
  rw [if_neg (fun h => Bool.noConfusion h)]
  obtain ⟨x, hx, hx2⟩ := hD hm
  exact h2 x hx hx2
theorem FinM_all {Q : Act → World → Prop} {mk : Nat → Bool} (hm : ∀ i, mk i = true) : ∀ (L : List (Option Tmp × Pred)) (i : Nat) (a : Act) (w : World), FinM Q mk i L a w → Fin Q L a w
 | [], _, _, _, h => h
 | (d, R) :: L, i, a, w, h => by
  unfold FinM at h
  rw [if_pos (hm i)] at h
  exact fun v hv => FinM_all hm L (i + 1) _ w (h v hv)
theorem RW_frL (hT : TabOk P T) (hF : ∀ i, FtOk P (Ext wB) (ft i)) {asm : List (Nat × Bool)} {s0 : S} (hs : okS s0 = true) (hgl : GlR bs ρ s0.gl) (hhp : HpR ρ wB s0.H) {ops : Array Oper} (mk : Nat → Nat → Bool) (D : Nat → List Nat) {Q' : Nat → Act → World → Prop} {st' : Ns} (l : List Oper) :
  ∀ (i : Nat) (st : Ns) (E : Nat → Pred) (K : List (Option Tmp × Pred) → Prop) (g : List Prop), frN T ft N ops asm s0 i l st = some (g, st') → allP g → OkN s0.H.length st → (∀ σ j o, l[j]? = some o → mk σ (i + j) = false → ∃ d, o.dst = some d ∧ d ∈ D σ) →
   (∀ t x, st.fr.lookup t = some x → ∀ v w, Ext wB w → E t v w → feR ρ wB x v w) →
   (∀ σ a w, Ext wB w → a.tmps.size = N → a.defers = [] → OkN s0.H.length st' → (∀ t x, st'.fr.lookup t = some x → t ∉ D σ → feR ρ wB x (a.tmps.getD t undef) w) → Q' σ a w) →
   (∀ L, (∀ σ a w, Ext wB w → a.tmps.size = N → a.defers = [] → (∀ t x, st.fr.lookup t = some x → t ∉ D σ → feR ρ wB x (a.tmps.getD t undef) w) → FinM (Q' σ) (mk σ) i L a w) → K L) → RW P ops Ext wB l E K := by
 induction l with
 | nil =>
  intro i st E K g h hg hok _ _ hQ hK
  injection h with h; simp only [Prod.mk.injEq] at h; obtain ⟨rfl, rfl⟩ := h
  exact hK [] fun σ a w h1 h2 h3 h4 => hQ σ a w h1 h2 h3 hok h4
 | cons o rest ih =>
  intro i st E K g h hg hok hD hE hQ hK
  have hD' : ∀ σ j o, rest[j]? = some o → mk σ (i + 1 + j) = false → ∃ d, o.dst = some d ∧ d ∈ D σ := fun σ j o ho hm => hD σ (j + 1) o (by simpa using ho) (by rw [← hm]; congr 1; omega)
  have hD0 : ∀ σ, mk σ i = false → ∃ d, o.dst = some d ∧ d ∈ D σ := fun σ hm => hD σ 0 o rfl hm
  simp only [frN] at h
  have look : ∀ {t : Nat} {x : Fe}, st.fr.lookup t = some x → ∀ {a : Act} {w : World}, Ext wB w → t ∈ o.looksAt ops → (∀ t ∈ o.looksAt ops, E t (a.tmps.getD t undef) w) → feR ρ wB x (a.tmps.getD t undef) w :=
   fun hx _ _ hX ht hEa => hE _ _ hx _ _ hX (hEa _ ht)
  have opLook : ∀ {t : Nat}, Operand.tmp t ∈ o.op.operands.toList → t ∈ o.looksAt ops := fun hx => List.mem_append_left _ (List.mem_filterMap.2 ⟨.tmp _, by simpa using hx, rfl⟩)
  have gLook : ∀ {j : Nat} {want : Bool} {dj : Nat}, o.guard = some (j, want) → (ops[j]?).bind (·.dst) = some dj → dj ∈ o.looksAt ops := fun hgd hd => by
   unfold Oper.looksAt; rw [hgd]; simp [hd]
  have wnt : ∀ {j : Nat} {want b : Bool} {dj : Nat}, o.guard = some (j, want) → (ops[j]?).bind (·.dst) = some dj → st.fr.lookup dj = some ⟨.c (.s (.b b)), none⟩ → ∀ {a : Act} {w : World}, Ext wB w → (∀ t ∈ o.looksAt ops, E t (a.tmps.getD t undef) w) → Region.wanted o (yielded ops a.tmps) = (b == want) := fun hgd hd hb _ _ hX hEa =>
   wanted_b hgd hd (look hb hX (gLook hgd hd) hEa)
  have skipC : dOk N o.dst = true → (∀ (a : Act) (w : World), Ext wB w → (∀ t ∈ o.looksAt ops, E t (a.tmps.getD t undef) w) → Region.wanted o (yielded ops a.tmps) = false) →
    frN T ft N ops asm s0 (i + 1) rest ⟨putN st.fr o.dst ⟨.t [], none⟩, st.cnt, st.dm⟩ = some (g, st') → RW P ops Ext wB (o :: rest) E K := fun hdk hw h1 => by
   refine ⟨fun v _ => v = undef, fun _ _ _ _ h => h, fun a w hX _ hEa => ?_, ih (i + 1) _ _ _ _ h1 hg ⟨hok.1, fun t x hx => ?_⟩ hD' (fun t x hx v w hX hv => ?_) hQ (fun L hL => hK _ fun σ a w hX hn hd hFr => fin_step (fun hm => hD0 σ hm) (fun v hv => hL σ _ w hX (by rw [put_size]; exact hn) (by rw [put_defers]; exact hd) fun t x hx hnD => ?_) (fun d hdd hdD => hL σ a w hX hn hd fun t x hx hnD => ?_))⟩
   ·rw [hw a w hX hEa]
    have e : ¬ (false = true) := fun h => Bool.noConfusion h
    rw [if_neg e]
   ·rcases lkPut hx with ⟨_, rfl⟩ | ⟨_, h2⟩
    ·rfl
    ·exact hok.2 t x h2
   ·unfold Go.Ch.upd at hv
    rcases lkPut hx with ⟨hd, rfl⟩ | ⟨h2, h3⟩
    ·rw [hd] at hv
     have e : (if t = t then (fun v _ => v = undef) else E t) v w := hv
     rw [if_pos rfl] at e
     exact ⟨[], F2.nil, e⟩
    ·refine hE t x h3 v w hX ?_
     cases hd : o.dst with
     | none => rw [hd] at hv; exact hv
     | some d => rw [hd] at hv h2; have e : (if t = d then (fun v _ => v = undef) else E t) v w := hv; rw [if_neg (fun e => h2 (by rw [e]))] at e; exact e
   ·rcases lkPut hx with ⟨hd2, rfl⟩ | ⟨h2, h3⟩
    ·rw [hd2] at hdk ⊢
     rw [getD_put_same a v t (by have := dOk_ok hdk hn t rfl; exact this)]
     exact ⟨[], F2.nil, hv⟩
    ·rw [getD_put_other a o.dst v t h2]
     exact hFr t x h3 hnD
   ·rcases lkPut hx with ⟨hd2, rfl⟩ | ⟨h2, h3⟩
    ·rw [hd2] at hdd; injection hdd with hdd; subst hdd; exact absurd hdD hnD
    ·exact hFr t x h3 hnD
  have doC : ∀ {g1 g2 : List Prop} {x1 : Fe} {c1 : Nat} {d1 : Bool}, stA2 T ft N asm s0 i o st = some (g1, x1, c1, d1) → g = g1 ++ g2 → (∀ (a : Act) (w : World), Ext wB w → (∀ t ∈ o.looksAt ops, E t (a.tmps.getD t undef) w) → Region.wanted o (yielded ops a.tmps) = true) →
    frN T ft N ops asm s0 (i + 1) rest ⟨putN st.fr o.dst x1, c1, d1⟩ = some (g2, st') → RW P ops Ext wB (o :: rest) E K := fun {g1 g2 x1 c1 d1} hA hge hw h1 => by
   subst hge
   obtain ⟨ga, gb⟩ := allP_append.1 hg
   obtain ⟨hdk, ⟨k1, k2, k3⟩, hwp⟩ := stA2_ok hT hF hs hgl hhp hok hA ga
   refine ⟨fun v w => feR ρ wB x1 v w, fun _ _ _ hX h => feR_ext hX h, fun a w hX _ hEa => ?_, ih (i + 1) _ _ _ _ h1 gb ⟨Nat.le_trans hok.1 k1, fun t x hx => ?_⟩ hD' (fun t x hx v w hX hv => ?_) hQ (fun L hL => hK _ fun σ a w hX hn hd hFr => fin_step (fun hm => hD0 σ hm) (fun v hv => hL σ _ w hX (by rw [put_size]; exact hn) (by rw [put_defers]; exact hd) fun t x hx hnD => ?_) (fun d hdd hdD => hL σ a w hX hn hd fun t x hx hnD => ?_))⟩
   ·rw [hw a w hX hEa]
    rw [if_pos rfl]; exact hwp a w hX (fun t y hop hy => look hy hX (opLook hop) hEa)
   ·rcases lkPut hx with ⟨_, rfl⟩ | ⟨_, h2⟩
    ·exact k3
    ·have := hok.2 t x h2
     cases hn : x.nw with
     | none => rw [hn] at this; exact this
     | some io => obtain ⟨i', ob⟩ := io; rw [hn] at this; exact ⟨this.1, Nat.lt_of_lt_of_le this.2.1 k1, this.2.2.1, this.2.2.2.1, fun e => k2 (this.2.2.2.2 e)⟩
   ·unfold Go.Ch.upd at hv
    rcases lkPut hx with ⟨hd, rfl⟩ | ⟨hd, h2⟩
    ·rw [hd] at hv
     have e : (if t = t then (fun v w => feR ρ wB x v w) else E t) v w := hv
     rw [if_pos rfl] at e
     exact e
    ·refine hE t x h2 v w hX ?_
     cases hd2 : o.dst with
     | none => rw [hd2] at hv; exact hv
     | some d => rw [hd2] at hv hd; have e : (if t = d then (fun v w => feR ρ wB x1 v w) else E t) v w := hv; rw [if_neg (fun e => hd (by rw [e]))] at e; exact e
   ·rcases lkPut hx with ⟨hd2, rfl⟩ | ⟨hd2, h2⟩
    ·rw [hd2] at hdk ⊢
     rw [getD_put_same a v t (by have := dOk_ok hdk hn t rfl; exact this)]
     exact hv
    ·rw [getD_put_other a o.dst v t hd2]
     exact hFr t x h2 hnD
   ·rcases lkPut hx with ⟨hd2, rfl⟩ | ⟨hd2, h2⟩
    ·rw [hd2] at hdd; injection hdd with hdd; subst hdd; exact absurd hdD hnD
    ·exact hFr t x h2 hnD
  split at h
  ·cases h
  ·rename_i hG
   split at h
   ·rename_i hdk
    unfold stG2 at hG
    split at hG
    ·split at hG <;> cases hG
    ·rename_i j want hgd
     split at hG
     ·cases hG
     ·rename_i dj hdj
      split at hG
      ·rename_i b hb
       split at hG
       ·split at hG <;> cases hG
       ·rename_i hbw
        exact skipC hdk (fun a w hX hEa => by rw [wnt hgd hdj hb hX hEa]; exact hbw) h
      ·rename_i hb
       exact skipC hdk (fun a w hX hEa => wanted_u hgd hdj (undef_of (look hb hX (gLook hgd hdj) hEa))) h
      ·cases hG
   ·cases h
  ·rename_i g1 x1 c1 d1 hG
   split at h
   ·cases h
   ·rename_i g2 st2 h2
    injection h with h; simp only [Prod.mk.injEq] at h; obtain ⟨rfl, rfl⟩ := h
    unfold stG2 at hG
    split at hG
    ·rename_i hgd
     split at hG
     ·rename_i r hr
      injection hG with hG; injection hG with hG; subst hG
      exact doC hr rfl (fun a w _ _ => by unfold Region.wanted; rw [hgd]) h2
     ·cases hG
    ·rename_i j want hgd
     split at hG
     ·cases hG
     ·rename_i dj hdj
      split at hG
      ·rename_i b hb
       split at hG
       ·rename_i hbw
        split at hG
        ·rename_i r hr
         injection hG with hG; injection hG with hG; subst hG
         exact doC hr rfl (fun a w hX hEa => by rw [wnt hgd hdj hb hX hEa]; exact hbw) h2
        ·cases hG
       ·cases hG
      ·cases hG
      ·cases hG
theorem rel_free (hs : okS s = true) (r3 : RelA ρ bs w0 s a w) {st : Ns} (hok : OkN s.H.length st) {ks : List (Nat × Bool)} {fr : Fr} {os : List Oj} {a' : Act} (hE : ∀ t x, t ∈ ks.map Prod.fst → st.fr.lookup t = some x → feR ρ w.drew x (a'.tmps.getD t undef) w')
  (has : asmN s.H.length st.fr 0 ks = some (fr, os)) (hsI : okS ⟨s.fr, s.gl, demI st.dm s.H⟩ = true) (hap : apL os = true) (hX : Ext w.drew w') (hn : a'.tmps.size = N) (hd : a'.defers = []) : Rel N bs w0 ⟨fr, s.gl, demI st.dm s.H ++ os⟩ a' w' := by
 have hxd : ∀ {w' : World}, Ext w.drew w' → Kp bs w0 w' := fun hx => (r3.kp.drew).ext hx
 obtain ⟨ps, hl, hps, hfin⟩ := asmN_ok hok ks 0 fr os hE has
 have hlenI : (demI st.dm s.H).length = s.H.length := by unfold demI; split; exact demO_len _; rfl
 have hRI : RelA ρ bs w0 ⟨s.fr, s.gl, demI st.dm s.H⟩ a w := by
  unfold demI; split
  ·exact r3.dem
  ·exact r3
 refine ⟨hd, hn, updL ρ s.H.length ps, ?_⟩
 have hsep := apL_ok hap
 have hU : ∀ i, i < s.H.length → updL ρ s.H.length ps i = ρ i := updL_lt
 have hUat : ∀ (k : Nat) (p : Pl), ps[k]? = some p → updL ρ s.H.length ps (s.H.length + k) = p := fun k p hp => updL_at hp
 have hold : ∀ {j : Nat} {x : Oj} {g : Nat}, (demI st.dm s.H)[j]? = some x → objAt (ρ j) x g → g < w.heap.size := fun hj hat => objAt_lt (hRI.hp _ _ hj) hat
 have e : updL ρ s.H.length ps = updL ρ (demI st.dm s.H).length ps := by rw [hlenI]
 have hobj : ∀ (k : Nat) (o : Oj) (p : Pl), os[k]? = some o → ps[k]? = some p → objR (updL ρ s.H.length ps) w' p o := fun k o p ho hp => (hps k o p ho hp).1 _ hU
 have sep2 : ∀ (k l : Nat) (o o' : Oj) (p p' : Pl) (g : Nat), k ≠ l → os[k]? = some o → os[l]? = some o' → ps[k]? = some p → ps[l]? = some p' → o.own = true → objAt p o g → ¬ objAt p' o' g := by
  intro k l o o' p p' g hkl ho ho' hp hp' hown hat hat'
  rcases Nat.lt_or_gt_of_ne hkl with hlt | hlt
  ·exact ap_sep (hsep k l o o' hlt ho ho') (hobj k o p ho hp) (hobj l o' p' ho' hp') (.inl hown) hat hat'
  ·exact ap_sep (hsep l k o' o hlt ho' ho) (hobj l o' p' ho' hp') (hobj k o p ho hp) (.inr hown) hat' hat
 have place : ∀ (k : Nat) (o : Oj) (p : Pl) (g : Nat), os[k]? = some o → ps[k]? = some p → objAt p o g → w.heap.size ≤ g ∨ o.kd = .ro false := fun k o p g ho hp hat => (hps k o p ho hp).2.1 g hat
 have hfr := hfin _ hU (fun k p hp => by have := hUat k p hp; simpa using this)
 rw [e] at hobj hfr ⊢
 refine RelA.news (w := w) (s := ⟨s.fr, s.gl, demI st.dm s.H⟩) hRI hsI hl rfl (fun j x hj => .inr ⟨hj, (hRI.hp j x hj).keep fun g hlt _ => hX.block g hlt⟩) (hxd hX) hobj (fun k o p j x g ho hp hj hxk hat hor hat2 => ?_) sep2 (fun k o p ho hp hfs g hat => ?_) _ _ hfr
 ·rcases place k o p g ho hp hat with hge | hro
  ·have := hold hj hat2
   omega
  ·have hyes := (hps k o p ho hp).2.2 hro
   have hj2 : (demO s.H)[j]? = some x := by rw [hyes] at hj; exact hj
   obtain ⟨_, _, hno, _⟩ := demO_at hj2
   rcases hor with h1 | h1
   ·rw [hno] at h1; cases h1
   ·unfold Oj.own at h1; rw [hro] at h1; cases h1
 ·rcases place k o p g ho hp hat with hge | hro
  ·exact .inl (Nat.le_trans r3.kp.size hge)
  ·unfold Oj.fsh at hfs; rw [hro] at hfs; cases hfs
def exI (T : Tab) (ft : Nat → FT) (N : Nat) (ops : Array Oper) (asm : List (Nat × Bool)) : List Nat → S → Option (List Prop × S)
 | [], s => some ([], s)
 | i :: is, s => match ops[i]? with
  | none => none
  | some o => match stG T ft N ops asm i o s with
   | none => none
   | some (g, s1) => match exI T ft N ops asm is s1 with
    | none => none
    | some (g2, s2) => some (g ++ g2, s2)
theorem exI_ok (hT : TabOk P T) (hF : ∀ i, FtOk P (Kp bs w0) (ft i)) {ops : Array Oper} {asm : List (Nat × Bool)} {Q : Exit → Act → World → Prop} (is : List Nat) : ∀ (g : List Prop) (s : S) (a : Act) (w : World), exI T ft N ops asm is s = some (g, s') → allP g → Rel N bs w0 s a w →
  (∀ a' w', Rel N bs w0 s' a' w' → Q .normal a' w') → wpList P ops Q (is.filterMap (ops[·]?)) a w := by
 induction is with
 | nil =>
  intro g s a w h hg hR hQ
  injection h with h; simp only [Prod.mk.injEq] at h; obtain ⟨rfl, rfl⟩ := h
  exact hQ a w hR
 | cons i is ih =>
  intro g s a w h hg hR hQ
  simp only [exI] at h
  split at h
  ·cases h
  ·rename_i o ho
   split at h
   ·cases h
   ·rename_i g1 s1 h1
    split at h
    ·cases h
    ·rename_i g2 s2 h2
     injection h with h; simp only [Prod.mk.injEq] at h; obtain ⟨rfl, rfl⟩ := h
     obtain ⟨ga, gb⟩ := allP_append.1 hg
     rw [List.filterMap_cons, ho]
     exact stG_ok hT hF h1 ga hR (fun a' w' hr => ih g2 s1 a' w' h2 gb hr hQ)
def dL (ops : List Oper) (S : List Nat) : List Nat := S.filterMap fun d => (ops[d]?).bind (·.dst)
def scnL (T : Tab) (ft : Nat → FT) (N k : Nat) (asm ks : List (Nat × Bool)) (D : List Nat) (run : S → Option (List Prop × S)) (cs : List Co) (live objs : List Nat) (ops : List Oper) (s : S) : Option (List Prop × S) :=
 match okS s, frN T ft N ops.toArray asm s 0 (ops.take k) ⟨frI s.fr, s.H.length, false⟩ with
 | true, some (g, st) => (match ks.all (fun p => !D.contains p.1), asmN s.H.length st.fr 0 ks with
  | true, some (fr, os) => (match okS ⟨s.fr, s.gl, demI st.dm s.H⟩, apL os with
   | true, true => (match run ⟨fr, s.gl, demI st.dm s.H ++ os⟩ with
    | some (g2, s2) => (match after cs live objs s2 with | some s3 => some (g ++ g2, s3) | none => none)
    | none => none)
   | _, _ => none)
  | _, _ => none)
 | _, _ => none
theorem scnL_ok {k : Nat} {asm ks : List (Nat × Bool)} {D : List Nat} {run : S → Option (List Prop × S)} {cs : List Co} {live objs : List Nat} {ops : List Oper} {g : List Prop} (h : scnL T ft N k asm ks D run cs live objs ops s = some (g, s')) (hg : allP g) :
  okS s = true ∧ ∃ g1 st, frN T ft N ops.toArray asm s 0 (ops.take k) ⟨frI s.fr, s.H.length, false⟩ = some (g1, st) ∧ allP g1 ∧
   ∀ (ρ : Pls) (a : Act) (w : World) (a' : Act) (w' : World), RelA ρ bs w0 s a w → OkN s.H.length st → (∀ t x, st.fr.lookup t = some x → t ∉ D → feR ρ w.drew x (a'.tmps.getD t undef) w') → Ext w.drew w' → a'.tmps.size = N → a'.defers = [] →
    ∃ s1 g2 s2, run s1 = some (g2, s2) ∧ allP g2 ∧ Rel N bs w0 s1 a' w' ∧ after cs live objs s2 = some s' := by
 unfold scnL at h
 split at h
 ·rename_i g1 st hs hfr
  split at h
  ·rename_i fr os hD has
   split at h
   ·rename_i hsI hap
    split at h
    ·rename_i g2 s2 hrun
     split at h
     ·rename_i s3 h3
      injection h with h; simp only [Prod.mk.injEq] at h; obtain ⟨rfl, rfl⟩ := h
      obtain ⟨ga, gb⟩ := allP_append.1 hg
      refine ⟨hs, g1, st, hfr, ga, fun ρ a w a' w' r3 hok hE hX hn hd => ⟨_, g2, s2, hrun, gb, rel_free hs r3 hok (fun t x ht hx => hE t x hx ?_) has hsI hap hX hn hd, h3⟩⟩
      obtain ⟨p, hp, rfl⟩ := List.mem_map.1 ht
      have := List.all_eq_true.1 hD p hp
      simpa using this
     ·cases h
    ·cases h
   ·cases h
  ·cases h
 ·cases h
theorem W_regL (hT : TabOk P T) (hF : ∀ i, FtOk P (Kp bs w0) (ft i)) (hm : P.follows .mixedOrders = true) {id : Nat} {l : List Oper} (k : Nat) (late : List Nat) (asm : List (Nat × Bool)) (cs : List Co) (live objs : List Nat) {s' : S} (ksF : List (Nat × Bool)) (kss : List (List (Nat × Bool)))
  (hr : (okRegionL l.toArray k N late && (chainB l.toArray late && ((decide (k < l.toArray.size) && late.all (fun d => decide (d < k))) && (((List.range late.length).all fun s => forcedB l.toArray ((maskL k l.toArray.size (late.drop s)).setIfInBounds k true) (late.drop s ++ (List.range l.toArray.size).drop (k + 1)) && decide ((late.drop s).length ≤ Go.Ch.cnt (fun j => (maskL k l.toArray.size (late.drop s)).getD j true) k)) && late.all (fun d => ((l[d]?).bind (·.dst)).isSome))))) = true)
  (hfull : ∃ g, scnL T ft N k asm ksF [] (exR T ft N l.toArray asm k (l.drop k)) cs live objs l s = some (g, s') ∧ allP g)
  (hlate : ∀ sc, sc < late.length → ∃ g, scnL T ft N k asm (kss.getD sc []) (dL l (late.drop sc)) (exI T ft N l.toArray asm (k :: late.drop sc ++ (List.range l.toArray.size).drop (k + 1))) cs live objs l s = some (g, s') ∧ allP g)
  {Q : Exit → S → Prop} (hQ : Q .normal s') : W P N bs w0 (.region id l.toArray true) s Q := by
 intro a w hR
 simp only [Bool.and_eq_true] at hr
 obtain ⟨h1, h2, ⟨h3a, h3b⟩, h4, h5⟩ := hr
 obtain ⟨gF, hF1, hF2⟩ := hfull
 obtain ⟨hs, g1, st, hfr, ga, hcont⟩ := scnL_ok (bs := bs) (w0 := w0) hF1 hF2
 obtain ⟨r1, r2, ρ, r3⟩ := hR
 have hxd : ∀ {w' : World}, Ext w.drew w' → Kp bs w0 w' := fun hx => (r3.kp.drew).ext hx
 have hhp : HpR ρ w.drew s.H := fun i o ho => (r3.hp i o ho).keep fun _ _ _ => rfl
 refine wp_region_rel_l k N late Ext hm h1 h2 (by simp only [Bool.and_eq_true]; exact ⟨h3a, h3b⟩) h4 r2 r1 (fun w => Below.refl _ _) (fun _ _ _ h1 h2 => Ext.tr h1 h2) ?_
 refine RW_frL hT (fun i f F h => ⟨fun args H g av objs h1 h2 ρ w' vals h3 => (hF i f F h).1 args H g av objs h1 h2 ρ w' vals (hxd h3), (hF i f F h).2⟩) hs r3.gl hhp (fun σ j => !(late.drop σ).contains j) (fun σ => dL l (late.drop σ))
  (Q' := fun σ a' w' => if σ < late.length then wpList P l.toArray (fun ex a' w' => ∃ s', Q ex s' ∧ Rel N bs w0 s' a' w') ((k :: late.drop σ ++ (List.range l.toArray.size).drop (k + 1)).filterMap (l.toArray[·]?)) a' w' else wpList P l.toArray (fun ex a' w' => ∃ s', Q ex s' ∧ Rel N bs w0 s' a' w') (l.drop k) a' w') (l.take k) 0 _ _ _ _ hfr ga ?_ ?_ ?_ ?_ ?_
 ·exact ⟨Nat.le_refl _, fun t x hx => by
   obtain ⟨e1, e2⟩ := frI_lk hx
   rw [e1]
   exact ltA_p (ltF_ok (okS_ok hs).1 t _ e2)⟩
 ·intro σ j o hj hmk
  have hmem : j ∈ late.drop σ := by
   rw [Nat.zero_add] at hmk
   simpa using hmk
  have hjl : j ∈ late := List.mem_of_mem_drop hmem
  have hd := List.all_eq_true.1 h5 j hjl
  have hlj : l[j]? = some o := by
   rw [List.getElem?_take] at hj
   split at hj
   ·exact hj
   ·cases hj
  rw [hlj] at hd
  simp only [Option.bind_some] at hd
  cases hdd : o.dst with
  | none => rw [hdd] at hd; cases hd
  | some d => exact ⟨d, rfl, List.mem_filterMap.2 ⟨j, hmem, by rw [hlj]; exact hdd⟩⟩
 ·intro t x hx v w' hX hv
  obtain ⟨e1, e2⟩ := frI_lk hx
  unfold feR
  rw [e1]
  have hv' : v = a.tmps.getD t undef := hv
  subst hv'
  exact r3.fr t _ e2
 ·intro σ a' w' hX hn hd hok hE
  by_cases hσ : σ < late.length
  ·rw [if_pos hσ]
   obtain ⟨g, hg1, hg2⟩ := hlate σ hσ
   obtain ⟨_, g1', st', hfr', _, hcont'⟩ := scnL_ok (bs := bs) (w0 := w0) hg1 hg2
   rw [hfr] at hfr'; injection hfr' with hfr'; simp only [Prod.mk.injEq] at hfr'; obtain ⟨rfl, rfl⟩ := hfr'
   obtain ⟨s1, g2, s2, hrun, gb, hrel, haf⟩ := hcont' ρ a w a' w' r3 hok hE hX hn hd
   exact exI_ok hT hF _ g2 s1 a' w' hrun gb hrel (fun a2 w2 hr => ⟨_, hQ, after_ok haf hr⟩)
  ·rw [if_neg hσ]
   have hD0 : late.drop σ = [] := List.drop_of_length_le (by omega)
   rw [hD0] at hE
   obtain ⟨s1, g2, s2, hrun, gb, hrel, haf⟩ := hcont ρ a w a' w' r3 hok (fun t x hx _ => hE t x hx (by simp [dL])) hX hn hd
   exact exR_ok hT hF _ k g2 s1 a' w' hrun gb hrel (fun a2 w2 hr => ⟨_, hQ, after_ok haf hr⟩)
 ·intro L hL
  have start : ∀ σ w', Ext w.drew w' → FinM _ _ 0 L a w' := fun σ w' hX => hL σ a w' hX r2 r1 (fun t x hx _ => by
   obtain ⟨e1, e2⟩ := frI_lk hx
   unfold feR
   rw [e1]
   exact r3.fr t _ e2)
  refine ⟨fun w' hX => ?_, fun sc hsc w' hX => ?_⟩
  ·have := FinM_all (fun i => by simp) L 0 a w' (start late.length w' hX)
   simpa only [if_neg (Nat.lt_irrefl late.length)] using this
  ·have := start sc w' hX
   simpa only [if_pos hsc] using this
end
end Go.Sx
end
section
namespace Go.Sx
open Go.RowKit Go.Ch
section
variable {P : Program} {T : Tab} {ft : Nat → FT} {ρ : Pls} {w w' : World} {bs : Bs} {w0 : World} {s s' : S} {a a' : Act} {N : Nat} {ops : Array Oper} {asm : List (Nat × Bool)}
def vA (asm : List (Nat × Bool)) (i : Nat) (r : List Prop × AV) : Option (List Prop × AV) := match asm.lookup i with
 | none => some r
 | some bv => match r with
  | (g, .c (.s (.b e))) => some (g ++ [e = bv], .c (.s (.b bv)))
  | _ => none
def puV (T : Tab) (asm : List (Nat × Bool)) (i : Nat) (o : Oper) (s : S) : Option (List Prop × AV) := match vop T s.H (ev0 s.fr s.gl) o.op with
 | some r => vA asm i r
 | none => none
def puG (T : Tab) (ops : Array Oper) (asm : List (Nat × Bool)) (i : Nat) (o : Oper) (s : S) : Option (List Prop × AV) := match o.guard with
 | none => puV T asm i o s
 | some (j, want) => match (ops[j]?).bind (·.dst) with
  | none => none
  | some dj => match s.fr.lookup dj with
   | some (.c (.s (.b b))) => (match b, want with
    | true, true => puV T asm i o s
    | false, false => puV T asm i o s
    | true, false => some ([], .t [])
    | false, true => some ([], .t []))
   | some (.t []) => some ([], .t [])
   | _ => none
theorem get_look {x y : Array Value} (hs : x.size = y.size) {t : Nat} (h : x.getD t undef = y.getD t undef) : x[t]? = y[t]? := by
 by_cases ht : t < x.size
 ·have hy : t < y.size := by omega
  simp only [Array.getD_eq_getD_getElem?, Array.getElem?_eq_getElem ht, Array.getElem?_eq_getElem hy, Option.getD_some] at h
  rw [Array.getElem?_eq_getElem ht, Array.getElem?_eq_getElem hy, h]
 ·rw [Array.getElem?_eq_none (by omega), Array.getElem?_eq_none (by omega)]
theorem exec_look {o : Oper} (hs : ∀ cs b, o.op ≠ .select cs b) (hl : ∀ t ∈ o.looksAt ops, a.tmps.getD t undef = a'.tmps.getD t undef) : execOp a.eval o = execOp a'.eval o :=
 execOp_congr o hs fun x hx => by
  cases x with
  | tmp t => exact hl t (List.mem_append_left _ (List.mem_filterMap.2 ⟨.tmp t, by simpa using hx, rfl⟩))
  | _ => rfl
theorem wanted_look {o : Oper} (hs : a.tmps.size = a'.tmps.size) (hl : ∀ t ∈ o.looksAt ops, a.tmps.getD t undef = a'.tmps.getD t undef) : Region.wanted o (yielded ops a.tmps) = Region.wanted o (yielded ops a'.tmps) := by
 unfold Region.wanted
 cases hg : o.guard with
 | none => rfl
 | some gw =>
  obtain ⟨g, want⟩ := gw
  have hy : yielded ops a.tmps g = yielded ops a'.tmps g := by
   unfold yielded
   cases ht : (ops[g]?).bind (·.dst) with
   | none => rfl
   | some t =>
    have := get_look hs (hl t (by unfold Oper.looksAt; rw [hg]; simp [ht]))
    simp only [Option.bind_some, this]
  simp only [hy]
theorem wp_shift {o : Oper} {K : Act → World → Prop} {Q : Exit → Act → World → Prop} (he : execOp a.eval o = execOp a'.eval o) (hK : ∀ a w, K a w → a.defers = []) (h : o.wp P a' w K (fun _ _ _ => False)) :
  o.wp P a w (fun a1 w1 => ∃ v, a1 = a.put o.dst v ∧ K (a'.put o.dst v) w1) Q := by
 unfold Oper.wp at *
 rw [he]
 generalize (execOp a'.eval o).run P w = r at *
 cases r with
 | ok n w' =>
  cases n <;> simp only [Oper.upon] at h ⊢ <;>
  first
  | exact ⟨_, rfl, h⟩
  | exact Calls.mono h (fun e w'' he => by
    cases e with
    | returned v => exact ⟨v, rfl, he⟩
    | panicked c => exact he.elim
    | outgrown => obtain ⟨_, _, hf⟩ := he; exact hf.elim)
  | exact Rows.mono h (fun _ _ he => ⟨_, rfl, he⟩)
  | (have := hK _ _ h; rw [put_defers] at this; cases this)
 | halt x w' => cases x <;> simp only [Oper.upon] at h ⊢
theorem puV_ok (hT : TabOk P T) {i : Nat} {o : Oper} {g : List Prop} {z : AV} (h : puV T asm i o s = some (g, z)) (hg : allP g) (hR : RelA ρ bs w0 s a' w) :
  ∃ v, avR ρ z v ∧ (execOp a'.eval o).run P w = .ok (.value v) w := by
 obtain ⟨dst, op, ty, pos, aft, gd⟩ := o
 have hae := fun x av h => ev0_ok (ρ := ρ) (a := a') hR.fr hR.gl x av h
 unfold puV at h
 split at h
 ·rename_i r hv
  obtain ⟨g1, z1⟩ := r
  unfold vA at h
  split at h
  ·injection h with h; simp only [Prod.mk.injEq] at h; obtain ⟨rfl, rfl⟩ := h
   obtain ⟨u, hr, hu⟩ := vop_ok hT hR.hp hae hv hg dst ty pos aft gd
   exact ⟨u, hu, hr⟩
  ·split at h
   ·rename_i bv _ g2 e hge
    simp only [Prod.mk.injEq] at hge; obtain ⟨rfl, rfl⟩ := hge
    injection h with h; simp only [Prod.mk.injEq] at h; obtain ⟨rfl, rfl⟩ := h
    obtain ⟨ga, gb⟩ := allP_append.1 hg
    simp only [allP] at gb
    subst gb
    obtain ⟨u, hr, hu⟩ := vop_ok hT hR.hp hae hv ga dst ty pos aft gd
    exact ⟨u, hu, hr⟩
   ·cases h
 ·cases h
theorem puG_ok (hT : TabOk P T) {i : Nat} {o : Oper} (hs : ∀ cs b, o.op ≠ .select cs b) {g : List Prop} {z : AV} (h : puG T ops asm i o s = some (g, z)) (hg : allP g) (hR : RelA ρ bs w0 s a' w) :
  ∃ v, avR ρ z v ∧ ∀ (a : Act), a.tmps.size = a'.tmps.size → (∀ t ∈ o.looksAt ops, a.tmps.getD t undef = a'.tmps.getD t undef) → ∀ (K : Act → World → Prop) (Q : Exit → Act → World → Prop), K (a.put o.dst v) w →
   if Region.wanted o (yielded ops a.tmps) = true then o.wp P a w K Q ∨ (o.asks P a w ∧ LetsOut Q) else K (a.put o.dst undef) w := by
 have go : puV T asm i o s = some (g, z) → Region.wanted o (yielded ops a'.tmps) = true → ∃ v, avR ρ z v ∧ ∀ (a : Act), a.tmps.size = a'.tmps.size → (∀ t ∈ o.looksAt ops, a.tmps.getD t undef = a'.tmps.getD t undef) → ∀ (K : Act → World → Prop) (Q : Exit → Act → World → Prop), K (a.put o.dst v) w →
   if Region.wanted o (yielded ops a.tmps) = true then o.wp P a w K Q ∨ (o.asks P a w ∧ LetsOut Q) else K (a.put o.dst undef) w := fun h1 hw => by
  obtain ⟨v, hv, hr⟩ := puV_ok hT h1 hg hR
  refine ⟨v, hv, fun a hsz hl K Q hK => ?_⟩
  rw [wanted_look hsz hl, if_pos hw]
  refine .inl ?_
  unfold Oper.wp
  rw [exec_look hs hl, hr]
  exact hK
 have skip : (some (([] : List Prop), AV.t []) : Option (List Prop × AV)) = some (g, z) → Region.wanted o (yielded ops a'.tmps) = false → ∃ v, avR ρ z v ∧ ∀ (a : Act), a.tmps.size = a'.tmps.size → (∀ t ∈ o.looksAt ops, a.tmps.getD t undef = a'.tmps.getD t undef) → ∀ (K : Act → World → Prop) (Q : Exit → Act → World → Prop), K (a.put o.dst v) w →
   if Region.wanted o (yielded ops a.tmps) = true then o.wp P a w K Q ∨ (o.asks P a w ∧ LetsOut Q) else K (a.put o.dst undef) w := fun h1 hw => by
  injection h1 with h1; simp only [Prod.mk.injEq] at h1; obtain ⟨rfl, rfl⟩ := h1
  refine ⟨undef, ⟨[], F2.nil, rfl⟩, fun a hsz hl K Q hK => ?_⟩
  rw [wanted_look hsz hl, hw]
  exact hK
 unfold puG at h
 split at h
 ·rename_i hgd
  exact go h (by unfold Region.wanted; rw [hgd])
 ·rename_i j want hgd
  split at h
  ·cases h
  ·rename_i dj hdj
   split at h
   ·rename_i b hb
    have hv : a'.tmps.getD dj undef = .bool b := hR.fr dj _ hb
    have hw := wanted_b hgd hdj hv
    split at h
    ·exact go h hw
    ·exact go h hw
    ·exact skip h hw
    ·exact skip h hw
   ·rename_i hb
    have hv : avR ρ (.t []) (a'.tmps.getD dj undef) := hR.fr dj _ hb
    exact skip h (wanted_u hgd hdj (undef_of hv))
   ·cases h
def runP (T : Tab) (N : Nat) (ops : Array Oper) (asm : List (Nat × Bool)) : List Nat → S → Option (List Prop × S)
 | [], s => some ([], s)
 | i :: is, s => match ops[i]? with
  | none => none
  | some o => match dOk N o.dst, puG T ops asm i o s with
   | true, some (g, z) => (match runP T N ops asm is ⟨putF s.fr o.dst z, s.gl, s.H⟩ with
    | some (g2, s2) => some (g ++ g2, s2)
    | none => none)
   | _, _ => none
theorem runP_ok (hT : TabOk P T) (hs : ∀ (i : Nat) (o : Oper), ops[i]? = some o → ∀ cs b, o.op ≠ .select cs b) (is : List Nat) : ∀ (g : List Prop) (s : S) (a : Act), runP T N ops asm is s = some (g, s') → allP g → Rel N bs w0 s a w →
  ∃ a', Rel N bs w0 s' a' w ∧ ∀ t, (∀ i ∈ is, ∀ o, ops[i]? = some o → o.dst ≠ some t) → a'.tmps.getD t undef = a.tmps.getD t undef := by
 induction is with
 | nil =>
  intro g s a h hg hR
  injection h with h; simp only [Prod.mk.injEq] at h; obtain ⟨rfl, rfl⟩ := h
  exact ⟨a, hR, fun _ _ => rfl⟩
 | cons i is ih =>
  intro g s a h hg hR
  simp only [runP] at h
  split at h
  ·cases h
  ·rename_i o ho
   split at h
   ·rename_i g1 z hdk hp
    split at h
    ·rename_i g2 s2 h2
     injection h with h; simp only [Prod.mk.injEq] at h; obtain ⟨rfl, rfl⟩ := h
     obtain ⟨ga, gb⟩ := allP_append.1 hg
     obtain ⟨r1, r2, ρ, r3⟩ := hR
     obtain ⟨v, hv, _⟩ := puG_ok hT (hs i o ho) hp ga r3
     obtain ⟨a2, hR2, hl⟩ := ih g2 _ (a.put o.dst v) h2 gb ⟨by rw [put_defers]; exact r1, by rw [put_size]; exact r2, ρ, r3.put hv (dOk_ok hdk r2)⟩
     refine ⟨a2, hR2, fun t ht => ?_⟩
     rw [hl t (fun j hj => ht j (List.mem_cons_of_mem _ hj)), getD_put_other _ _ _ _ (ht i List.mem_cons_self o ho)]
    ·cases h
   ·cases h
structure Ed where
 n : Nat
 m : Nat
 t : Nat
 ps : List Nat
 cs : List Co
 live : List Nat
 objs : List Nat
def stE (T : Tab) (ft : Nat → FT) (N : Nat) (ops : Array Oper) (asm : List (Nat × Bool)) (e : Ed) (s : S) : Option (List Prop × S) := match ops[e.m]? with
 | none => none
 | some o => match stG T ft N ops asm e.m o s with
  | none => none
  | some (g1, s1) => match runP T N ops asm e.ps s1 with
   | none => none
   | some (g2, s2) => match after e.cs e.live e.objs s2 with
    | none => none
    | some s3 => some (g1 ++ g2, s3)
def st0 (T : Tab) (N : Nat) (ops : Array Oper) (asm : List (Nat × Bool)) (ps : List Nat) (cs : List Co) (live objs : List Nat) (s : S) : Option (List Prop × S) := match runP T N ops asm ps s with
 | none => none
 | some (g, s1) => match after cs live objs s1 with
  | none => none
  | some s2 => some (g, s2)
def rdL (T : Tab) (ops : Array Oper) (asm : List (Nat × Bool)) (p : Nat) (s : S) : Option (Option (List Prop × AV)) := match ops[p]? with
 | some o => some (puG T ops asm p o s)
 | none => none
def rdR (ops : Array Oper) (g : List Prop) (p : Nat) (s : S) : Option (Option (List Prop × AV)) := match (ops[p]?).bind (·.dst) with
 | some d => (match s.fr.lookup d with | some z => some (some (g, z)) | none => none)
 | none => none
inductive AllE (T : Tab) (ft : Nat → FT) (N : Nat) (ops : Array Oper) (asm : List (Nat × Bool)) (sts : List S) (s : S) : List Ed → Prop
 | nil : AllE T ft N ops asm sts s []
 | cons {e : Ed} {l : List Ed} : (∃ g, stE T ft N ops asm e (sts.getD e.n s) = some (g, sts.getD e.t s) ∧ allP g) → AllE T ft N ops asm sts s l → AllE T ft N ops asm sts s (e :: l)
inductive AllR (T : Tab) (ops : Array Oper) (asm : List (Nat × Bool)) (sts : List S) (s : S) : List (Nat × Nat) → Prop
 | nil : AllR T ops asm sts s []
 | cons {k p : Nat} {l : List (Nat × Nat)} : (∃ g, rdL T ops asm p (sts.getD k s) = rdR ops g p (sts.getD k s) ∧ allP g) → AllR T ops asm sts s l → AllR T ops asm sts s ((k, p) :: l)
theorem AllE.mem {sts : List S} {l : List Ed} (h : AllE T ft N ops asm sts s l) : ∀ e ∈ l, ∃ g, stE T ft N ops asm e (sts.getD e.n s) = some (g, sts.getD e.t s) ∧ allP g := by
 induction h with
 | nil => intro e he; cases he
 | cons h1 _ ih =>
  intro e he
  rcases List.mem_cons.1 he with rfl | he
  ·exact h1
  ·exact ih e he
theorem AllR.mem {sts : List S} {l : List (Nat × Nat)} (h : AllR T ops asm sts s l) : ∀ e ∈ l, ∃ g, rdL T ops asm e.2 (sts.getD e.1 s) = rdR ops g e.2 (sts.getD e.1 s) ∧ allP g := by
 induction h with
 | nil => intro e he; cases he
 | cons h1 _ ih =>
  intro e he
  rcases List.mem_cons.1 he with rfl | he
  ·exact h1
  ·exact ih e he
def okOps (ops : Array Oper) (N : Nat) (pu : List Nat) : Bool :=
 (List.range ops.size).all fun i => match ops[i]? with
  | none => false
  | some o => okEdges o (fun j => decide (j < i)) && ((match o.op with | .select _ _ => false | _ => true) &&
    (((o.looksAt ops).all fun t => pu.all fun p => match ops[p]? with | some q => q.dst != some t || inC ops i ops.size p | none => true) &&
    (!pu.contains i || (match o.dst with | some d => decide (d < N) | none => false))))
def okNode (ops : Array Oper) (pu : List Nat) (es : List Ed) (rd : List (Nat × Nat)) (k : Nat) (dn : List Nat) : Bool :=
 (List.range ops.size).all fun i => match dn.contains i with
  | true => !pu.contains i || (rd.contains (k, i) || dn.any fun m => !pu.contains m && (decide (m < ops.size) && inC ops m ops.size i))
  | false => (!pu.contains i && es.any fun e => Nat.beq e.n k && Nat.beq e.m i) || (List.range ops.size).any fun j => hasE ops i j && !dn.contains j
def okEdge (pu : List Nat) (nodes : List (List Nat)) (e : Ed) : Bool := match nodes[e.n]?, nodes[e.t]? with
 | some dn, some dt => !pu.contains e.m && (!dn.contains e.m && (e.ps.all (fun p => pu.contains p && !dn.contains p) && (dt.all (fun i => Nat.beq i e.m || (e.ps.contains i || dn.contains i)) && (dn.all (fun i => dt.contains i) && dt.contains e.m))))
 | _, _ => false
def okPlan (ops : Array Oper) (N : Nat) (pu : List Nat) (nodes : List (List Nat)) (ps0 : List Nat) (es : List Ed) (rd : List (Nat × Nat)) (fin : Nat) : Bool :=
 okOps ops N pu && (((List.range nodes.length).all fun k => okNode ops pu es rd k (nodes.getD k [])) && (es.all (okEdge pu nodes) &&
  ((ps0.all fun p => pu.contains p) && (((nodes.getD 0 []).all fun p => pu.contains p) && (decide (0 < nodes.length) &&
   ((List.range nodes.length).all fun k => Nat.beq k fin || (List.range ops.size).any fun i => !(nodes.getD k []).contains i))))))
structure Pln (ops : Array Oper) (N : Nat) (pu : List Nat) (nodes : List (List Nat)) (ps0 : List Nat) (es : List Ed) (rd : List (Nat × Nat)) (fin : Nat) : Prop where
 edges : ∀ (i : Nat) (o : Oper), ops[i]? = some o → okEdges o (fun j => decide (j < i)) = true
 nosel : ∀ (i : Nat) (o : Oper), ops[i]? = some o → ∀ cs b, o.op ≠ .select cs b
 look : ∀ (i : Nat) (o : Oper), ops[i]? = some o → ∀ t ∈ o.looksAt ops, ∀ p, p ∈ pu → ∀ (q : Oper), ops[p]? = some q → q.dst = some t → inC ops i ops.size p = true
 pdst : ∀ (p : Nat) (o : Oper), p ∈ pu → ops[p]? = some o → ∃ d, o.dst = some d ∧ d < N
 nin : ∀ k dn, nodes[k]? = some dn → ∀ i, i < ops.size → i ∈ dn → i ∈ pu → (k, i) ∈ rd ∨ ∃ m ∈ dn, m ∉ pu ∧ m < ops.size ∧ inC ops m ops.size i = true
 nout : ∀ k dn, nodes[k]? = some dn → ∀ i, i < ops.size → i ∉ dn → (i ∉ pu ∧ ∃ e ∈ es, e.n = k ∧ e.m = i) ∨ ∃ j, hasE ops i j = true ∧ j ∉ dn
 edge : ∀ e ∈ es, ∃ dn dt, nodes[e.n]? = some dn ∧ nodes[e.t]? = some dt ∧ e.m ∉ pu ∧ e.m ∉ dn ∧ (∀ p ∈ e.ps, p ∈ pu ∧ p ∉ dn) ∧ (∀ i ∈ dt, i = e.m ∨ i ∈ e.ps ∨ i ∈ dn) ∧ (∀ i ∈ dn, i ∈ dt) ∧ e.m ∈ dt
 start : ∀ p ∈ ps0, p ∈ pu
 zero : ∃ dn, nodes[0]? = some dn ∧ ∀ p ∈ dn, p ∈ pu
 last : ∀ k dn, nodes[k]? = some dn → (∀ i, i < ops.size → i ∈ dn) → k = fin
theorem Pln.of {pu : List Nat} {nodes : List (List Nat)} {ps0 : List Nat} {es : List Ed} {rd : List (Nat × Nat)} {fin : Nat} (h : okPlan ops N pu nodes ps0 es rd fin = true) : Pln ops N pu nodes ps0 es rd fin := by
 unfold okPlan at h
 simp only [Bool.and_eq_true] at h
 obtain ⟨h1, h2, h3, h4, h5, h6, h7⟩ := h
 have H : ∀ (i : Nat) (o : Oper), ops[i]? = some o → _ := fun i o ho => by
  have hi := (Array.getElem?_eq_some_iff.1 ho).1
  have := List.all_eq_true.1 h1 i (List.mem_range.2 hi)
  rw [ho] at this
  simp only [Bool.and_eq_true] at this
  exact this
 have nd : ∀ k dn, nodes[k]? = some dn → k < nodes.length ∧ nodes.getD k [] = dn := fun k dn hk => ⟨(List.getElem?_eq_some_iff.1 hk).1, by rw [List.getD_eq_getElem?_getD, hk]; rfl⟩
 refine ⟨fun i o ho => (H i o ho).1, fun i o ho cs b e => ?_, fun i o ho t ht p hp q hq hd => ?_, fun p o hp ho => ?_, fun k dn hk i hi hin hpu => ?_, fun k dn hk i hi hin => ?_, fun e he => ?_, fun p hp => ?_, ⟨nodes.getD 0 [], ?_, fun p hp => ?_⟩, fun k dn hk hall => ?_⟩
 ·have := (H i o ho).2.1
  rw [e] at this; cases this
 ·have := List.all_eq_true.1 (List.all_eq_true.1 (H i o ho).2.2.1 t ht) p hp
  rw [hq] at this
  simp only [hd, Bool.or_eq_true, bne_self_eq_false, Bool.false_eq_true, false_or] at this
  exact this
 ·have := (H p o ho).2.2.2
  rw [show pu.contains p = true by simpa using hp] at this
  simp only [Bool.not_true, Bool.false_or] at this
  cases hd : o.dst with
  | none => rw [hd] at this; cases this
  | some d => rw [hd] at this; exact ⟨d, rfl, by simpa using this⟩
 ·obtain ⟨hk1, hk2⟩ := nd k dn hk
  have := List.all_eq_true.1 (List.all_eq_true.1 h2 k (List.mem_range.2 hk1)) i (List.mem_range.2 hi)
  rw [hk2, show dn.contains i = true by simpa using hin, show pu.contains i = true by simpa using hpu] at this
  simp only [Bool.not_true, Bool.false_or, Bool.or_eq_true, List.any_eq_true, Bool.and_eq_true, decide_eq_true_eq, Bool.not_eq_true'] at this
  rcases this with h | ⟨m, hm, h1, h2, h3⟩
  ·exact .inl (by simpa using h)
  ·exact .inr ⟨m, hm, by simpa using h1, h2, h3⟩
 ·obtain ⟨hk1, hk2⟩ := nd k dn hk
  have := List.all_eq_true.1 (List.all_eq_true.1 h2 k (List.mem_range.2 hk1)) i (List.mem_range.2 hi)
  rw [hk2, show dn.contains i = false by simpa using hin] at this
  simp only [Bool.or_eq_true, List.any_eq_true, Bool.and_eq_true, Bool.not_eq_true'] at this
  rcases this with ⟨h, e, he, h1, h2⟩ | ⟨j, _, h1, h2⟩
  ·exact .inl ⟨by simpa using h, e, he, Nat.eq_of_beq_eq_true h1, Nat.eq_of_beq_eq_true h2⟩
  ·exact .inr ⟨j, h1, by simpa using h2⟩
 ·have := List.all_eq_true.1 h3 e he
  unfold okEdge at this
  split at this
  ·rename_i dn dt hn ht
   simp only [Bool.and_eq_true, List.all_eq_true, Bool.not_eq_true', Bool.or_eq_true] at this
   obtain ⟨g1, g2, g3, g4, g5, g6⟩ := this
   refine ⟨dn, dt, hn, ht, by simpa using g1, by simpa using g2, fun p hp => ?_, fun i hi => ?_, fun i hi => ?_, by simpa using g6⟩
   ·have := g3 p hp; exact ⟨by simpa using this.1, by simpa using this.2⟩
   ·rcases g4 i hi with h | h | h
    ·exact .inl (Nat.eq_of_beq_eq_true h)
    ·exact .inr (.inl (by simpa using h))
    ·exact .inr (.inr (by simpa using h))
   ·simpa using g5 i hi
  ·cases this
 ·simpa using List.all_eq_true.1 h4 p hp
 ·have h6' : 0 < nodes.length := by simpa using h6
  rw [List.getD_eq_getElem?_getD, List.getElem?_eq_getElem h6']; rfl
 ·simpa using List.all_eq_true.1 h5 p hp
 ·obtain ⟨hk1, hk2⟩ := nd k dn hk
  have := List.all_eq_true.1 h7 k (List.mem_range.2 hk1)
  simp only [Bool.or_eq_true, List.any_eq_true, List.mem_range, Bool.not_eq_true'] at this
  rcases this with h | ⟨i, hi, h⟩
  ·exact Nat.eq_of_beq_eq_true h
  ·rw [hk2] at h
   have := hall i hi
   simp only [List.contains_eq_mem, decide_eq_false_iff_not] at h
   exact absurd this h
theorem okEdges_has {o : Oper} {g : Nat → Bool} {j : Nat} (hg : okEdges o g = true) (he : hasEdge o j = true) : g j = true := by
 unfold okEdges at hg
 unfold hasEdge at he
 obtain ⟨x, hx, hb⟩ := Array.any_eq_true'.1 he
 have := Array.all_eq_true'.1 hg x hx
 simp only [Bool.and_eq_true, beq_iff_eq] at hb
 rw [hb.1, hb.2] at this
 simpa using this
theorem okEdges_mono {o : Oper} {f g : Nat → Bool} (hf : okEdges o f = true) (hfg : ∀ j, f j = true → g j = true) : okEdges o g = true := by
 unfold okEdges at *
 rw [Array.all_eq_true'] at *
 intro x hx
 have := hf x hx
 simp only [Bool.or_eq_true, Bool.not_eq_true'] at this ⊢
 exact this.imp id (hfg _)
theorem getD_any {l : Array Bool} {i : Nat} (h : i < l.size) {d d' : Bool} : l.getD i d = l.getD i d' := by
 simp only [Array.getD_eq_getD_getElem?, Array.getElem?_eq_getElem h, Option.getD_some]
theorem Act.same {a a' : Act} (h : a.tmps.size = a'.tmps.size) (hd : a.defers = a'.defers) (ht : ∀ t, a.tmps.getD t undef = a'.tmps.getD t undef) : a = a' := by
 obtain ⟨x, d⟩ := a; obtain ⟨y, d'⟩ := a'
 simp only at h hd ht
 subst hd
 have : x = y := by
  apply Array.ext h
  intro i h1 h2
  have := ht i
  simpa only [Array.getD_eq_getD_getElem?, Array.getElem?_eq_getElem h1, Array.getElem?_eq_getElem h2, Option.getD_some] using this
 rw [this]
set_option maxHeartbeats 1000000 in
theorem any_G (hT : TabOk P T) (hF : ∀ i, FtOk P (Kp bs w0) (ft i)) {pu : List Nat} {nodes : List (List Nat)} {ps0 : List Nat} {es : List Ed} {rd : List (Nat × Nat)} {fin : Nat} (hp : Pln ops N pu nodes ps0 es rd fin) {sts : List S}
  (hE : AllE T ft N ops asm sts s es) (hD : AllR T ops asm sts s rd) {Q : Exit → Act → World → Prop} (hQ : ∀ a w, Rel N bs w0 (sts.getD fin s) a w → Q .normal a w) :
  ∀ (f k : Nat) (dn : List Nat) (listed : Array Bool) (a a' : Act) (w : World), listed.size = ops.size → (∀ j o, ops[j]? = some o → listed.getD j true = true → okEdges o (fun e => listed.getD e false) = true) →
   nodes[k]? = some dn → (∀ i, listed.getD i false = true → i ∈ dn) → (∀ i ∈ dn, i < ops.size → i ∉ pu → listed.getD i false = true) → cnt (fun j => listed.getD j true) ops.size ≤ f →
   Rel N bs w0 (sts.getD k s) a' w → a.tmps.size = N → a.defers = [] → (∀ t, (∀ p o, p ∈ pu → ops[p]? = some o → o.dst = some t → listed.getD p false = true) → a.tmps.getD t undef = a'.tmps.getD t undef) →
   wpAny P .any ops Q f listed a w := by
 intro f
 have fini : ∀ (k : Nat) (dn : List Nat) (listed : Array Bool) (a a' : Act) (w : World), listed.size = ops.size → nodes[k]? = some dn → (∀ i, listed.getD i false = true → i ∈ dn) → cnt (fun j => listed.getD j true) ops.size = 0 →
   Rel N bs w0 (sts.getD k s) a' w → a.tmps.size = N → a.defers = [] → (∀ t, (∀ p o, p ∈ pu → ops[p]? = some o → o.dst = some t → listed.getD p false = true) → a.tmps.getD t undef = a'.tmps.getD t undef) → Q .normal a w := by
  intro k dn listed a a' w hs hk hsub hc hR hn hd hl
  have hall := cnt_zero _ _ hc
  have hall' : ∀ i, i < ops.size → listed.getD i false = true := fun i hi => by rw [getD_any (d' := true) (by omega)]; exact hall i hi
  have := hp.last k dn hk (fun i hi => hsub i (hall' i hi))
  subst this
  have e : a = a' := Act.same (by rw [hn, hR.size]) (by rw [hd, hR.dfr]) (fun t => hl t (fun p o _ ho _ => hall' p (Array.getElem?_eq_some_iff.1 ho).1))
  rw [e]; exact hQ a' w hR
 induction f with
 | zero =>
  intro k dn listed a a' w hs hcl hk hsub hmn hc hR hn hd hl
  have hc0 : cnt (fun j => listed.getD j true) ops.size = 0 := by omega
  have hall := cnt_zero _ _ hc0
  refine ⟨List.eq_nil_iff_forall_not_mem.2 fun i hi => ?_, fini k dn listed a a' w hs hk hsub hc0 hR hn hd hl⟩
  obtain ⟨o, ho, h1, _⟩ := Go.Ch.mem_ready.1 hi
  have := hall i (Array.getElem?_eq_some_iff.1 ho).1
  rw [this] at h1; cases h1
 | succ f ih =>
  intro k dn listed a a' w hs hcl hk hsub hmn hc hR hn hd hl
  refine ⟨fun h0 => ?_, fun i hi => ?_⟩
  ·refine fini k dn listed a a' w hs hk hsub ?_ hR hn hd hl
   -- all have come up, else the least that has not is ready
   have key : ∀ m, m ≤ ops.size → ∀ j < m, listed.getD j true = true := by
    intro m
    induction m with
    | zero => intro _ j hj; omega
    | succ m ihm =>
     intro hm j hj
     have hlt := ihm (by omega)
     by_cases e : j = m
     ·subst e
      cases hj' : listed.getD j true
      ·have hjs : j < ops.size := by omega
       have : j ∈ Region.ready .any ops listed := Go.Ch.mem_ready.2 ⟨_, Array.getElem?_eq_getElem hjs, hj', okEdges_mono (hp.edges j _ (Array.getElem?_eq_getElem hjs)) (fun q hq => by
        have hq' : q < j := by simpa using hq
        rw [getD_any (d' := true) (by omega)]; exact hlt q hq')⟩
       rw [h0] at this; cases this
      ·rfl
     ·exact hlt j (by omega)
   rw [cnt_congr ops.size (l' := fun _ => true) (fun j hj => key ops.size (Nat.le_refl _) j hj)]
   exact cnt_true _
  ·obtain ⟨o, ho, h1, h2⟩ := Go.Ch.mem_ready.1 hi
   have hin := (Array.getElem?_eq_some_iff.1 ho).1
   have hgs : ∀ j d, (listed.setIfInBounds i true).getD j d = if j = i then true else listed.getD j d := fun j d => getD_set listed i d j (by omega)
   have hcl' : ∀ j oj, ops[j]? = some oj → (listed.setIfInBounds i true).getD j true = true → okEdges oj (fun e => (listed.setIfInBounds i true).getD e false) = true := fun j oj hoj hlj => by
    by_cases e : j = i
    ·subst e
     rw [ho] at hoj; injection hoj with hoj; subst hoj
     exact okEdges_mono h2 (fun x hx => by rw [hgs]; split <;> simp_all)
    ·rw [hgs, if_neg e] at hlj
     exact okEdges_mono (hcl j oj hoj hlj) (fun x hx => by rw [hgs]; split <;> simp_all)
   have hcnt' : cnt (fun j => (listed.setIfInBounds i true).getD j true) ops.size ≤ f := by
    have := cnt_set (fun j => listed.getD j true) i ops.size hin h1
    rw [cnt_congr ops.size (l' := fun j => if j = i then true else listed.getD j true) (fun j _ => hgs j true)]
    omega
   have hlk : ∀ t ∈ o.looksAt ops, a.tmps.getD t undef = a'.tmps.getD t undef := fun t ht => hl t (fun p q hpp hq hdq => inC_ok hcl hs ho h2 _ _ (hp.look i o ho t ht p hpp q hq hdq))
   have hsz : a.tmps.size = a'.tmps.size := by rw [hn, hR.size]
   have hnot : listed.getD i false = false := by rw [getD_any (d' := true) (by omega)]; exact h1
   unfold wpOp
   rw [ho]
   show if Region.wanted o (yielded ops a.tmps) = true then _ else _
   by_cases hpu : i ∈ pu
   ·-- it leaves the world alone
    have hidn : i ∈ dn := by
     by_cases hdn : i ∈ dn
     ·exact hdn
     ·exfalso
      rcases hp.nout k dn hk i hin hdn with ⟨h, _⟩ | ⟨j, hj, hjn⟩
      ·exact h hpu
      ·unfold hasE at hj; rw [ho] at hj
       exact hjn (hsub j (okEdges_has h2 hj))
    have hrd : (k, i) ∈ rd := by
     rcases hp.nin k dn hk i hin hidn hpu with h | ⟨m, hm, hmp, hms, hmi⟩
     ·exact h
     ·exfalso
      have hml := hmn m hm hms hmp
      have hom : ops[m]? = some ops[m] := Array.getElem?_eq_getElem hms
      have := inC_ok hcl hs hom (hcl m _ hom (by rw [getD_any (d' := false) (by omega)]; exact hml)) _ _ hmi
      rw [this] at hnot; cases hnot
    obtain ⟨d, hdd, hdN⟩ := hp.pdst i o hpu ho
    obtain ⟨g, hg1, hg2⟩ := hD.mem _ hrd
    simp only [rdL, rdR, ho, Option.bind_some, hdd] at hg1
    split at hg1
    ·rename_i z hz
     injection hg1 with hg1
     obtain ⟨r1, r2, ρ, r3⟩ := hR
     obtain ⟨v, hv, hrun⟩ := puG_ok hT (hp.nosel i o ho) hg1 hg2 r3
     refine hrun a hsz hlk _ _ (ih k dn _ _ (a'.put o.dst v) w (by simpa using hs) hcl' hk (fun j hj => ?_) (fun j hj hjs hjp => ?_) hcnt' ⟨by rw [put_defers]; exact r1, by rw [put_size]; exact r2, ρ, ?_, r3.gl, r3.hp, r3.sep, r3.own, r3.kp⟩ (by rw [put_size]; exact hn) (by rw [put_defers]; exact hd) (fun t ht => ?_))
     ·rw [hgs] at hj
      split at hj
      ·rename_i e; rw [e]; exact hidn
      ·exact hsub j hj
     ·rw [hgs]; split
      ·rfl
      ·exact hmn j hj hjs hjp
     ·intro t x hx
      rw [hdd]
      by_cases e : d = t
      ·subst e
       rw [hz] at hx; injection hx with hx; subst hx
       rw [getD_put_same _ _ _ (by rw [r2]; exact hdN)]; exact hv
      ·rw [getD_put_other _ _ _ _ (by simpa using e)]; exact r3.fr t x hx
     ·rw [hdd]
      by_cases e : d = t
      ·subst e
       rw [getD_put_same _ _ _ (by rw [hn]; exact hdN), getD_put_same _ _ _ (by rw [r2]; exact hdN)]
      ·rw [getD_put_other _ _ _ _ (by simpa using e), getD_put_other _ _ _ _ (by simpa using e)]
       refine hl t (fun p q hpp hq hdq => ?_)
       have := ht p q hpp hq hdq
       rw [hgs] at this
       split at this
       ·rename_i e2; subst e2
        rw [ho] at hq; injection hq with hq; subst hq
        rw [hdd] at hdq; injection hdq with hdq; exact absurd hdq e
       ·exact this
    ·cases hg1
   ·-- it may change the world
    have hidn : i ∉ dn := fun h => by have := hmn i h hin hpu; rw [this] at hnot; cases hnot
    obtain ⟨e, he, rfl, rfl⟩ : ∃ e ∈ es, e.n = k ∧ e.m = i := by
     rcases hp.nout k dn hk i hin hidn with ⟨_, h⟩ | ⟨j, hj, hjn⟩
     ·exact h
     ·exfalso
      unfold hasE at hj; rw [ho] at hj
      exact hjn (hsub j (okEdges_has h2 hj))
    obtain ⟨dn', dt, hn1, ht1, _, _, hps, hdt, hsb, hmd⟩ := hp.edge e he
    rw [hk] at hn1; injection hn1 with hn1; subst hn1
    obtain ⟨g, hg1, hg2⟩ := hE.mem e he
    unfold stE at hg1
    rw [ho] at hg1
    simp only at hg1
    split at hg1
    ·cases hg1
    ·rename_i g1 s1 hst
     split at hg1
     ·cases hg1
     ·rename_i g2 s2 hrp
      split at hg1
      ·cases hg1
      ·rename_i s3 haf
       injection hg1 with hg1; simp only [Prod.mk.injEq] at hg1; obtain ⟨rfl, rfl⟩ := hg1
       obtain ⟨ga, gb⟩ := allP_append.1 hg2
       have next : ∀ v w1, Rel N bs w0 s1 (a'.put o.dst v) w1 → wpAny P .any ops Q f (listed.setIfInBounds e.m true) (a.put o.dst v) w1 := fun v w1 hR1 => by
        obtain ⟨a2, hR2, hl2⟩ := runP_ok hT hp.nosel e.ps g2 s1 _ hrp gb hR1
        refine ih e.t dt _ _ a2 w1 (by simpa using hs) hcl' ht1 (fun j hj => ?_) (fun j hj hjs hjp => ?_) hcnt' (after_ok haf hR2) (by rw [put_size]; exact hn) (by rw [put_defers]; exact hd) (fun t ht => ?_)
        ·rw [hgs] at hj
         split at hj
         ·rename_i e2; rw [e2]; exact hmd
         ·exact hsb j (hsub j hj)
        ·rw [hgs]; split
         ·rfl
         ·rename_i hne
          rcases hdt j hj with h | h | h
          ·exact absurd h hne
          ·exact absurd (hps j h).1 hjp
          ·exact hmn j h hjs hjp
        ·have hold : ∀ p q, p ∈ pu → ops[p]? = some q → q.dst = some t → listed.getD p false = true := fun p q hpp hq hdq => by
          have := ht p q hpp hq hdq
          rw [hgs] at this
          split at this
          ·rename_i e2; subst e2; exact absurd hpp hpu
          ·exact this
         rw [hl2 t (fun p hpp q hq hdq => by
          have h3 := hps p hpp
          exact h3.2 (hsub p (hold p q h3.1 hq hdq)))]
         by_cases e2 : o.dst = some t
         ·rw [e2]
          by_cases hlt : t < N
          ·rw [getD_put_same _ _ _ (by rw [hn]; exact hlt), getD_put_same _ _ _ (by rw [hR.size]; exact hlt)]
          ·have e3 : ∀ (x : Act), x.tmps.size = N → x.tmps.getD t undef = undef := fun x hx => by
            rw [Array.getD_eq_getD_getElem?, Array.getElem?_eq_none (by rw [hx]; exact Nat.le_of_not_lt hlt)]; rfl
           rw [e3 _ (by rw [put_size]; exact hn), e3 _ (by rw [put_size]; exact hR.size)]
         ·rw [getD_put_other _ _ _ _ e2, getD_put_other _ _ _ _ e2]
          exact hl t hold
       have hgo := stG_ok hT hF hst ga hR (Q := fun _ _ _ => False) (K := fun a1 w1 => Rel N bs w0 s1 a1 w1) (fun _ _ h => h)
       rw [wanted_look hsz hlk]
       split at hgo
       ·rename_i hw
        rw [if_pos hw]
        rcases hgo with hgo | ⟨_, _, _, hf⟩
        ·exact .inl (Oper.wp_mono (fun a1 w1 ⟨v, hv, hR1⟩ => by rw [hv]; exact next v w1 hR1) (wp_shift (exec_look (hp.nosel e.m o ho) hlk) (fun _ _ h => h.dfr) hgo))
        ·exact hf.elim
       ·rename_i hw
        rw [if_neg hw]
        exact next undef w hgo
theorem W_regG (hT : TabOk P T) (hF : ∀ i, FtOk P (Kp bs w0) (ft i)) (hm : P.follows .mixedOrders = true) {id : Nat} {l : List Oper} (asm : List (Nat × Bool)) (pu : List Nat) (nodes : List (List Nat)) (sts : List S) (ps0 : List Nat) (es : List Ed) (rd : List (Nat × Nat)) (fin : Nat) (live0 objs0 : List Nat) (cs : List Co) (live objs : List Nat) {s' : S}
  (hr : okPlan l.toArray N pu nodes ps0 es rd fin = true)
  (h0 : ∃ g, st0 T N l.toArray asm ps0 [] live0 objs0 s = some (g, sts.getD 0 s) ∧ allP g)
  (hE : AllE T ft N l.toArray asm sts s es) (hD : AllR T l.toArray asm sts s rd)
  (hf : after cs live objs (sts.getD fin s) = some s')
  {Q : Exit → S → Prop} (hQ : Q .normal s') : W P N bs w0 (.region id l.toArray true) s Q := by
 intro a w hR
 have hp := Pln.of hr
 obtain ⟨g, hg1, hg2⟩ := h0
 have hR' : Rel N bs w0 s a w.drew := by
  obtain ⟨r1, r2, ρ, r3⟩ := hR
  exact ⟨r1, r2, ρ, r3.fr, r3.gl, fun i o ho => (r3.hp i o ho).keep fun _ _ _ => rfl, r3.sep, r3.own, r3.kp.drew⟩
 unfold st0 at hg1
 split at hg1
 ·cases hg1
 rename_i g0 s1 hrun
 split at hg1
 ·cases hg1
 rename_i s2 haf
 injection hg1 with hg1; simp only [Prod.mk.injEq] at hg1; obtain ⟨rfl, rfl⟩ := hg1
 obtain ⟨a', hR1, hl⟩ := runP_ok hT hp.nosel ps0 g0 s a hrun hg2 hR'
 have hR2 := after_ok haf hR1
 obtain ⟨dn, hdn, hdp⟩ := hp.zero
 have none' : ∀ i d, (Array.replicate l.toArray.size false).getD i d = true → d = true := fun i d h => by
  simp only [Array.getD_eq_getD_getElem?, Array.getElem?_replicate] at h
  split at h
  ·cases h
  ·exact h
 refine wp_region_any hm (any_G hT hF hp hE hD (Q := fun ex a' w' => ∃ s', Q ex s' ∧ Rel N bs w0 s' a' w') (fun a w h => ⟨s', hQ, after_ok hf h⟩) _ 0 dn _ a a' w.drew (by simp) (fun j o ho hlj => ?_) hdn (fun i hi => ?_) (fun i hi _ hn => absurd (hdp i hi) hn) ?_ hR2 hR.size hR.dfr (fun t ht => ?_))
 ·have := (Array.getElem?_eq_some_iff.1 ho).1
  simp only [Array.getD_eq_getD_getElem?, Array.getElem?_replicate, if_pos this, Option.getD_some] at hlj
  cases hlj
 ·have := none' i false hi; cases this
 ·have : ∀ m, m ≤ l.toArray.size → cnt (fun j => (Array.replicate l.toArray.size false).getD j true) m ≤ m := by
   intro m
   induction m with
   | zero => intro _; exact Nat.le_refl _
   | succ m ih => intro hm; simp only [cnt]; have := ih (by omega); split <;> omega
  exact this _ (Nat.le_refl _)
 ·refine (hl t (fun i hi o ho hd => ?_)).symm
  have := none' i false (ht i o (hp.start i hi) ho hd); cases this
end
end Go.Sx
end
section
namespace Go.Sx
open Go.RowKit Go.Ch
section
variable {P : Program} {T : Tab} {ρ : Pls} {w w' : World} {bs : Bs} {w0 : World} {s s' : S} {a : Act} {N : Nat} {ft : Nat → FT} {Q : Exit → S → Prop}
theorem W_condF {x y : Code} (h : W P N bs w0 y s Q) : W P N bs w0 (.cond (.const (.bool false)) x y) s Q := fun a w hR => wp_cond_false rfl (h a w hR)
theorem exR_app (hT : TabOk P T) (hF : ∀ i, FtOk P (Kp bs w0) (ft i)) {ops : Array Oper} {asm : List (Nat × Bool)} {Q : Exit → Act → World → Prop} {rest : List Oper} (l : List Oper) : ∀ (i : Nat) (g : List Prop) (s : S) (a : Act) (w : World), exR T ft N ops asm i l s = some (g, s') → allP g → Rel N bs w0 s a w →
  (∀ a' w', Rel N bs w0 s' a' w' → wpList P ops Q rest a' w') → wpList P ops Q (l ++ rest) a w := by
 induction l with
 | nil =>
  intro i g s a w h hg hR hQ
  injection h with h; simp only [Prod.mk.injEq] at h; obtain ⟨rfl, rfl⟩ := h
  exact hQ a w hR
 | cons o l ih =>
  intro i g s a w h hg hR hQ
  simp only [exR] at h
  split at h
  ·cases h
  ·rename_i g1 s1 h1
   split at h
   ·cases h
   ·rename_i g2 s2 h2
    injection h with h; simp only [Prod.mk.injEq] at h; obtain ⟨rfl, rfl⟩ := h
    obtain ⟨ga, gb⟩ := allP_append.1 hg
    exact stG_ok hT hF h1 ga hR (fun a' w' hr => ih (i + 1) g2 s1 a' w' h2 gb hr hQ)
theorem digits_b : ∀ (n t : Nat) (acc : Array Value) (l0 : List UInt8), acc.toList = l0.map bU → ∃ l : List UInt8, (Extern.BytealgMakeNoZero.digits n t acc).toList = l.map bU
 | 0, _, acc, l0, h => ⟨l0, h⟩
 | n + 1, t, acc, l0, h => by
  rw [Extern.BytealgMakeNoZero.digits]
  refine digits_b n _ _ (l0 ++ [UInt8.ofNat (t % 256)]) ?_
  rw [Array.toList_push, h, List.map_append]
  congr 1
  simp [bU]
theorem run_mnz (w : World) (ps : Array TypeId) (t e : TypeId) (ht : P.underlying t = some (.slice e)) (n : Nat) (hn : n ≤ 281474976710656) :
  ∃ cs : Array Value, (Extern.BytealgMakeNoZero.makeNoZero ps #[t] #[.int .i64 n]).run P w = .ok (.slice (some ⟨w.heap.size, 0, none⟩) n cs.size) (w.drew.drew.alloc (.cells cs e)) ∧ n ≤ cs.size ∧ (n ≤ maxLen → cs.size ≤ maxLen) ∧ ∃ l : List UInt8, cs.toList = l.map bU := by
 have hdef : Extern.BytealgMakeNoZero.makeNoZero ps #[t] #[.int .i64 n] =
   (do
    let .slice elem ← underlying t | stuck "bytealg.MakeNoZero: slice type expected"
    if (n : Int) < 0 || (n : Int) > 2 ^ 48 then runtimePanic (.error "makeslice: len out of range")
    let cap ← choose (.appendCap (n : Int).toNat 0 elem)
    askRoom cap
    let bytes ← choose (.extern "internal/bytealg.MakeNoZero.bytes" 0)
    let a ← newRow elem (Extern.BytealgMakeNoZero.digits cap bytes #[])
    pure (.slice (some a) (n : Int).toNat cap)) := rfl
 refine ⟨Extern.BytealgMakeNoZero.digits (grownCap w n 0 e) ((Question.extern "internal/bytealg.MakeNoZero.bytes" 0).cut (w.tape (w.drawn + 1) (.extern "internal/bytealg.MakeNoZero.bytes" 0))) #[], ?_, ?_, ?_, digits_b _ _ _ [] rfl⟩
 ·rw [hdef]
  have h1 : ¬ (n : Int) < 0 := by omega
  have h2 : ¬ (281474976710656 : Int) < (n : Int) := by omega
  simp [run_underlying ht, h1, h2, Question.forced, newRow, Go.Lib.size_digits, grownCap]
 ·rw [Go.Lib.size_digits]
  simpa using grownCap_ge w n 0 e
 ·intro hm
  rw [Go.Lib.size_digits]
  simpa using grownCap_le_maxLen w n 0 e hm
def regP (T : Tab) (ft : Nat → FT) (N : Nat) (ops : Array Oper) (asm : List (Nat × Bool)) (k : Nat) (cs : List Co) (live objs : List Nat) (post : List Oper) (s : S) : Option (List Prop × S) :=
 match exR T ft N ops asm k post s with
 | some (g, s1) => (match after cs live objs s1 with | some s2 => some (g, s2) | none => none)
 | none => none
theorem W_mnz (hT : TabOk P T) (hF : ∀ i, FtOk P (Kp bs w0) (ft i)) {id : Nat} (asm : List (Nat × Bool)) (cs : List Co) (live objs : List Nat) {pre post : List Oper} {g1 : List Prop} {s1 : S} {e rt : TypeId} {m d : Nat} {x : Operand} {f : FuncId} {fn : Func} {ats ps : Array TypeId} {ty : TypeId} {pos : String} {aft : Array Edge}
  (hpre : exR T ft N (pre ++ ⟨some d, .call ⟨.value (.func f), #[x], ats⟩, ty, pos, aft, none⟩ :: post).toArray asm 0 pre s = some (g1, s1)) (hg1 : allP g1)
  (hx : ev0 s1.fr s1.gl x = some (.c (.s (.k .i64 (m : Int))))) (hm : m ≤ 140737488355328)
  (hfn : P.funcs[f]? = some fn) (h1 : (fn.name == "runtime.NumGoroutine") = false) (h2 : fn.body.isNone = true) (h3 : Extern.findNext fn = none) (h4 : Extern.find fn = some (Extern.BytealgMakeNoZero.makeNoZero ps #[rt]))
  (hrt : P.underlying rt = some (.slice e)) (hd : d < N) (hok : okS s1 = true)
  (hpost : ∀ u : List UInt8, u.length = m → ∃ g2 s2, regP T ft N (pre ++ ⟨some d, .call ⟨.value (.func f), #[x], ats⟩, ty, pos, aft, none⟩ :: post).toArray asm (pre.length + 1) cs live objs post ⟨putF s1.fr (some d) (.c (.wh s1.H.length)), s1.gl, s1.H ++ [⟨.row, e, 1, m, .b u⟩]⟩ = some (g2, s2) ∧ allP g2 ∧ Q .normal s2) :
  W P N bs w0 (.region id (pre ++ ⟨some d, .call ⟨.value (.func f), #[x], ats⟩, ty, pos, aft, none⟩ :: post).toArray false) s Q := by
 intro a w hR
 refine wp_region_lit (exR_app hT hF pre 0 g1 s a w hpre hg1 hR fun a' w' hr => ?_)
 obtain ⟨hd0, hN, ρ, hA⟩ := hr
 have hev : a'.eval x = .int .i64 (m : Int) := ev0_ok hA.fr hA.gl x _ hx
 obtain ⟨cs, hrun, hle, hmax, l, hl⟩ := run_mnz (P := P) w' ps rt e hrt m (by omega)
 have hlen : l.length = cs.size := by rw [← List.length_map (f := bU), ← hl]; simp
 obtain ⟨u, hu⟩ : ∃ u, u = l.take m := ⟨_, rfl⟩
 have hul : u.length = m := by rw [hu, List.length_take]; omega
 have hrow : newR ρ w' (w'.drew.drew.alloc (.cells cs e)) (.slice (some ⟨w'.heap.size, 0, none⟩) m cs.size) ⟨some ⟨w'.heap.size, 0, none⟩, m, cs.size, 1⟩ false ⟨.row, e, 1, m, .b u⟩ := by
  refine ⟨⟨⟨rfl, rfl, by simp [Cs.cl, hul]⟩, u.map bU, csR_b.2 rfl, ?_, .inr ⟨w'.heap.size, cs.size, cs, rfl, Nat.zero_le _, Array.getElem?_push_size, hle, hmax (by unfold maxLen; omega), by simp, by rw [hl, hu, Nat.mul_one, List.map_take]⟩⟩, ?_, fun h => by (cases h), fun _ => rfl⟩
  ·simp [hul]
  ·rintro g ⟨ad, had, rfl⟩
   injection had with had; subst had; exact Nat.le_refl _
 have hgr : w'.grownBy (w'.drew.drew.alloc (.cells cs e)) none := by
  have h := World.grownBy_alloc w'.drew.drew (.cells cs e) none
  exact ⟨h.os, h.tape, h.output, h.size, h.block⟩
 obtain ⟨g2, s2, he, hg2, hq⟩ := hpost u hul
 unfold regP at he
 split at he
 ·rename_i g3 s3 he3
  split at he
  ·rename_i s4 haf
   injection he with he; simp only [Prod.mk.injEq] at he; obtain ⟨rfl, rfl⟩ := he
   refine wpl_val (v := .slice (some ⟨w'.heap.size, 0, none⟩) m cs.size) (w' := w'.drew.drew.alloc (.cells cs e)) rfl ?_ ?_
   ·have hc := run_callFunc_extern hfn h1 h2 h3 h4 #[.int .i64 (m : Int)] w'
    rw [hrun] at hc
    simp only [Result.andThen_ok] at hc
    have he2 : a'.eval x = .int .i64 (m : Int) := hev
    simp [execOp, resolve, invoke, Deferred.ofValue, Act.eval] at he2 ⊢
    rw [he2]
    exact hc
   ·have hback := hA.alloc hok (by rfl : ltX s1.H.length (.b u) = true) hgr hrow (by simp) (d := some d) (fun k hk => by injection hk with hk; omega)
    exact exR_ok hT hF post _ _ _ _ _ he3 hg2 ⟨by rw [put_defers]; exact hd0, by rw [put_size]; exact hN, _, hback⟩ (fun a'' w'' hr => ⟨s4, hq, after_ok haf hr⟩)
  ·cases he
 ·cases he
end
end Go.Sx
end
section
namespace Go.Sx
open Go.RowKit Go.Ch
abbrev kI (n : Int) : AV := .c (.s (.k .i64 n))
abbrev kB (b : Bool) : AV := .c (.s (.b b))
abbrev kH (i : Nat) : AV := .c (.wh i)
abbrev kU (x : UInt8) : AV := .c (.s (.u8 x))
abbrev kX (x : UInt32) : AV := .c (.s (.u32 x))
abbrev kY (x : UInt64) : AV := .c (.s (.u64 x))
abbrev kT (l : List UInt8) : AV := .c (.s (.str l))
abbrev kE (t : TypeId) (o : Option Int) : AV := .c (.s (.er t .i64 o))
abbrev kP (i off : Nat) : AV := .c (.pt i off)
abbrev ob (e : TypeId) (l : List UInt8) : Oj := ⟨.ro false, e, 1, l.length, .b l⟩
abbrev ow (e : TypeId) (l : List UInt32) : Oj := ⟨.ro false, e, 1, l.length, .w l⟩
abbrev oz (e : TypeId) (l : List Int) : Oj := ⟨.ro false, e, 1, l.length, .z l⟩
abbrev nb (e : TypeId) (l : List UInt8) : Oj := ⟨.row, e, 1, l.length, .b l⟩
abbrev nw (e : TypeId) (l : List UInt32) : Oj := ⟨.row, e, 1, l.length, .w l⟩
abbrev nz (e : TypeId) (l : List Int) : Oj := ⟨.row, e, 1, l.length, .z l⟩
theorem aP {p : Prop} {ps : List Prop} (h : p) (hs : allP ps) : allP (p :: ps) := allP_cons.2 ⟨h, hs⟩
theorem aN : allP [] := allP_nil
section
variable {P : Program} {T : Tab} {ρ : Pls} {w w' : World} {bs : Bs} {w0 : World} {s : S} {a : Act} {N : Nat} {ft : Nat → FT} {Q : Exit → S → Prop}
theorem fT (k : Nat) {J : World → Prop} {f : FuncId} {F : Ct} {l : List (Nat × FuncId × Ct)} (h : FnOk P Tr f F) (hl : ∀ i, FtOk P J (ftL l i)) : ∀ i, FtOk P J (ftL ((k, f, F) :: l) i) := ftL_cons h (fun _ _ => True.intro) hl
theorem fI (k : Nat) {I J : World → Prop} {f : FuncId} {F : Ct} {l : List (Nat × FuncId × Ct)} (h : FnOk P I f F) (hI : ∀ w, J w → I w) (hl : ∀ i, FtOk P J (ftL l i)) : ∀ i, FtOk P J (ftL ((k, f, F) :: l) i) := ftL_cons h hI hl
theorem fN {J : World → Prop} : ∀ i, FtOk P J (ftL [] i) := ftL_nil
theorem Vr (hT : TabOk P T) {id : Nat} {l : List Oper} (objs : List Nat) (s' : S) (hQ : Q .normal s') (h : reg T (ftL []) N [] [] (s'.fr.map (·.1)) objs l s = some ([], s') := by kernel_rfl) :
  W P N bs w0 (.region id l.toArray false) s Q := W_reg hT ftL_nil [] [] _ objs h allP_nil hQ
theorem Vrs (hT : TabOk P T) {id : Nat} {l : List Oper} {y : Code} (objs : List Nat) (s' : S) (hQ : W P N bs w0 y s' Q) (h : reg T (ftL []) N [] [] (s'.fr.map (·.1)) objs l s = some ([], s') := by kernel_rfl) :
  W P N bs w0 (.seq (.region id l.toArray false) y) s Q := W_seq (Vr hT objs s' hQ h)
theorem Vg (hT : TabOk P T) (hF : ∀ i, FtOk P (Kp bs w0) (ft i)) {id : Nat} {l : List Oper} (asm : List (Nat × Bool)) (cs : List Co) (objs : List Nat) {g : List Prop} (s' : S) (hg : allP g) (hQ : Q .normal s') (h : reg T ft N asm cs (s'.fr.map (·.1)) objs l s = some (g, s') := by kernel_rfl) :
  W P N bs w0 (.region id l.toArray false) s Q := W_reg hT hF asm cs _ objs h hg hQ
theorem Vgs (hT : TabOk P T) (hF : ∀ i, FtOk P (Kp bs w0) (ft i)) {id : Nat} {l : List Oper} {y : Code} (asm : List (Nat × Bool)) (cs : List Co) (objs : List Nat) {g : List Prop} (s' : S) (hg : allP g) (hQ : W P N bs w0 y s' Q) (h : reg T ft N asm cs (s'.fr.map (·.1)) objs l s = some (g, s') := by kernel_rfl) :
  W P N bs w0 (.seq (.region id l.toArray false) y) s Q := W_seq (Vg hT hF asm cs objs s' hg hQ h)
theorem Vd (hT : TabOk P T) (hF : ∀ i, FtOk P (Kp bs w0) (ft i)) {id : Nat} {l : List Oper} (k : Nat) (asm ks : List (Nat × Bool)) (cs : List Co) (objs : List Nat) {g : List Prop} (s' : S) (hg : allP g) (hQ : Q .normal s')
  (hm : P.follows .mixedOrders = true := by kernel_rfl) (hr : (okRegion l.toArray k N && decide (k ≤ l.length)) = true := by kernel_rfl) (h : regD T ft N k asm ks cs (s'.fr.map (·.1)) objs l s = some (g, s') := by kernel_rfl) :
  W P N bs w0 (.region id l.toArray true) s Q := W_regD hT hF hm k asm ks cs _ objs hr h hg hQ
theorem Vds (hT : TabOk P T) (hF : ∀ i, FtOk P (Kp bs w0) (ft i)) {id : Nat} {l : List Oper} {y : Code} (k : Nat) (asm ks : List (Nat × Bool)) (cs : List Co) (objs : List Nat) {g : List Prop} (s' : S) (hg : allP g) (hQ : W P N bs w0 y s' Q)
  (hm : P.follows .mixedOrders = true := by kernel_rfl) (hr : (okRegion l.toArray k N && decide (k ≤ l.length)) = true := by kernel_rfl) (h : regD T ft N k asm ks cs (s'.fr.map (·.1)) objs l s = some (g, s') := by kernel_rfl) :
  W P N bs w0 (.seq (.region id l.toArray true) y) s Q := W_seq (Vd hT hF k asm ks cs objs s' hg hQ hm hr h)
theorem Vc {c : Code} (cs : List Co) (objs : List Nat) (s' : S) (hW : W P N bs w0 c s' Q) (h : after cs (s'.fr.map (·.1)) objs s = some s' := by kernel_rfl) : W P N bs w0 c s Q := W_co cs _ objs h hW
theorem Vi {t : Nat} {x y : Code} (b : Bool) (hx : b = true → W P N bs w0 x s Q) (hy : b = false → W P N bs w0 y s Q) (hb : s.fr.lookup t = some (.c (.s (.b b))) := by kernel_rfl) : W P N bs w0 (.cond (.tmp t) x y) s Q := W_cond hb hx hy
end
theorem GlR.glob {bs : Bs} {ρ : Pls} {gl : Fr} (g : Nat) (i : Nat) (hg : g < 1000000) (h : avR ρ (kP i 0) (.pointer (some ⟨g, 0, none⟩))) (hs : GlR bs ρ gl) : GlR bs ρ ((g, kP i 0) :: gl) := fun t x hx => by
 rw [List.lookup_cons] at hx
 split at hx
 ·rename_i e
  have : t = g := by simpa using e
  subst this
  injection hx with hx; subst hx
  unfold gvOf; rw [if_pos hg]; exact h
 ·exact hs t x hx
theorem gd2 {α : Type} {p q : Prop} [Decidable p] [Decidable q] {x : Option α} {r : α} (h : gd p (gd q x) = some r) : p ∧ q ∧ x = some r := ⟨(gd_some h).1, gd_some (gd_some h).2⟩
theorem gd3 {α : Type} {p q p3 : Prop} [Decidable p] [Decidable q] [Decidable p3] {x : Option α} {r : α} (h : gd p (gd q (gd p3 x)) = some r) : p ∧ q ∧ p3 ∧ x = some r := ⟨(gd_some h).1, gd2 (gd_some h).2⟩
theorem gd4 {α : Type} {p q p3 p4 : Prop} [Decidable p] [Decidable q] [Decidable p3] [Decidable p4] {x : Option α} {r : α} (h : gd p (gd q (gd p3 (gd p4 x))) = some r) : p ∧ q ∧ p3 ∧ p4 ∧ x = some r := ⟨(gd_some h).1, gd3 (gd_some h).2⟩
theorem gd5 {α : Type} {p q p3 p4 p5 : Prop} [Decidable p] [Decidable q] [Decidable p3] [Decidable p4] [Decidable p5] {x : Option α} {r : α} (h : gd p (gd q (gd p3 (gd p4 (gd p5 x)))) = some r) : p ∧ q ∧ p3 ∧ p4 ∧ p5 ∧ x = some r := ⟨(gd_some h).1, gd4 (gd_some h).2⟩
def ct0 (k : Hp → List Prop × AV × List Oj) : Ct := fun args H => match args with | [] => some (k H) | _ => none
def ctc {α : Type} (rd : Hp → AV → Option α) (k : AV → α → Ct) : Ct := fun args H => match args with | x :: xs => (match rd H x with | some a => k x a xs H | none => none) | [] => none
def ctl {α : Type} (rd : Hp → Option α) (k : α → Ct) : Ct := fun args H => match rd H with | some a => k a args H | none => none
theorem ct0_inv {k : Hp → List Prop × AV × List Oj} {args : List AV} {H : Hp} {g : List Prop} {av : AV} {os : List Oj} (h : ct0 k args H = some (g, av, os)) : args = [] ∧ (k H).1 = g ∧ (k H).2.1 = av ∧ (k H).2.2 = os := by
 unfold ct0 at h
 split at h
 ·injection h with h; rw [h]; exact ⟨rfl, rfl, rfl, rfl⟩
 ·cases h
theorem ctc_inv {α : Type} {rd : Hp → AV → Option α} {k : AV → α → Ct} {args : List AV} {H : Hp} {y : List Prop × AV × List Oj} (h : ctc rd k args H = some y) : ∃ x xs a, args = x :: xs ∧ rd H x = some a ∧ k x a xs H = some y := by
 cases args with
 | nil => cases h
 | cons x xs =>
  simp only [ctc] at h
  split at h
  ·rename_i a ha; exact ⟨x, xs, a, rfl, ha, h⟩
  ·cases h
theorem ctl_inv {α : Type} {rd : Hp → Option α} {k : α → Ct} {args : List AV} {H : Hp} {y : List Prop × AV × List Oj} (h : ctl rd k args H = some y) : ∃ a, rd H = some a ∧ k a args H = some y := by
 unfold ctl at h
 split at h
 ·rename_i a ha; exact ⟨a, ha, h⟩
 ·cases h
end Go.Sx
end
section
namespace Go.Proofs.YthichmclbiggmaaDoor
open Go.RowKit Go.Ch Go.Sx
def consts : List UInt32 := [0x428a2f98, 0x71374491, 0xb5c0fbcf, 0xe9b5dba5, 0x3956c25b, 0x59f111f1, 0x923f82a4, 0xab1c5ed5, 0xd807aa98, 0x12835b01, 0x243185be, 0x550c7dc3, 0x72be5d74, 0x80deb1fe, 0x9bdc06a7, 0xc19bf174, 0xe49b69c1, 0xefbe4786, 0x0fc19dc6, 0x240ca1cc, 0x2de92c6f, 0x4a7484aa, 0x5cb0a9dc, 0x76f988da, 0x983e5152, 0xa831c66d, 0xb00327c8, 0xbf597fc7, 0xc6e00bf3, 0xd5a79147, 0x06ca6351, 0x14292967, 0x27b70a85, 0x2e1b2138, 0x4d2c6dfc, 0x53380d13, 0x650a7354, 0x766a0abb, 0x81c2c92e, 0x92722c85, 0xa2bfe8a1, 0xa81a664b, 0xc24b8b70, 0xc76c51a3, 0xd192e819, 0xd6990624, 0xf40e3585, 0x106aa070, 0x19a4c116, 0x1e376c08, 0x2748774c, 0x34b0bcb5, 0x391c0cb3, 0x4ed8aa4a, 0x5b9cca4f, 0x682e6ff3, 0x748f82ee, 0x78a5636f, 0x84c87814, 0x8cc70208, 0x90befffa, 0xa4506ceb, 0xbef9a3f7, 0xc67178f2]
def GK (w : World) : Prop := ∀ k, k < 64 → w.cell? ⟨0, k, none⟩ = some (w32 (consts.getD k 0))
theorem GK.keep {w w' : World} (hx : Ext w w') (h : GK w) : GK w' := fun k hk => by
 have h1 := h k hk
 have hlt := World.block_lt_of_cell? _ _ h1
 rw [World.cell?_of_block (hx.block _ hlt)]; exact h1
abbrev plG : Pl := ⟨some ⟨0, 0, none⟩, 64, 64, 1⟩
theorem gk_ro {w : World} (h : GK w) (ρ : Pls) : objR ρ w plG (ow 55 consts) := by
 refine ⟨⟨rfl, rfl, rfl⟩, ⟨Nat.le_refl _, by simp [maxLen], fun e => by cases e⟩, consts.map w32, csR_w.2 rfl, fun ad ha j u hu => ?_⟩
 injection ha with ha; subst ha
 have hj : j < consts.length := by
  rw [List.getElem?_map] at hu
  cases hc : consts[j]? with
  | none => rw [hc] at hu; cases hu
  | some x => exact (List.getElem?_eq_some_iff.1 hc).1
 have e1 : (⟨0, 0, none⟩ : Addr).add j = ⟨0, j, none⟩ := addr_add0 0 j
 rw [e1, h j hj]
 rw [List.getElem?_map, List.getElem?_eq_getElem hj] at hu
 rw [List.getD_eq_getElem?_getD, List.getElem?_eq_getElem hj]
 exact hu
theorem gk_at {ρ : Pls} (i : Nat) (h : ρ i = plG) : avR ρ (kP i 0) (.pointer (some ⟨0, 0, none⟩)) := by
 refine ⟨by rw [h]; decide, ⟨0, 0, none⟩, by rw [h], by simp [Addr.add]⟩
end Go.Proofs.YthichmclbiggmaaDoor
end
section
namespace Go.Ch
open Go.ChangeShapes Go.WideShapes Go.RowKit
end Go.Ch
namespace Go.Proofs.YthichmclbiggmaaDoor
open Go.ChangeShapes Go.WideShapes Go.ChangeAt Go.RowKit Go.Ch
theorem words_cells : Tryd.prog.cellsOf 55 = 1 := by kernel_rfl
theorem own : ownKnob Tryd.prog.godebug = none := by kernel_rfl
theorem laidOut : laidOutB Tryd.prog = true := by kernel_rfl
theorem gK : Tryd.prog.globalNamed "charter/sha.constants" = some 0 := by kernel_rfl
theorem tK : (Tryd.prog.globals[0]?).map (·.type) = some 112 := by kernel_rfl
abbrev laidK : List (String × DataW Unit) := [("charter/sha.constants", Rows.laid_charter_sha_constants)]
theorem door_met (os : Os) (args : Array Value) : laidMetH Tryd.prog laidK ((World.doorLaid Tryd.prog 400 os).forCall (fun _ _ => 0) ⟨#[], args, []⟩).memory :=
 laidMetH_of_parts3 (fuel := 8) (laidMet_of_run' 8 (by kernel_rfl) (by kernel_rfl)) (by kernel_rfl) (by kernel_rfl)
theorem laid_is : (Rows.laid_charter_sha_constants : DataW Unit) = .agg (consts.map fun x => .lit (.int .u32 (x.toNat : Int))) := by rfl
theorem of_laid {W : World} (h : laidMetH Tryd.prog laidK W) : GK W := by
 rw [MakeChecks.laidMetH_plain _ _ _ (by kernel_rfl)] at h
 obtain ⟨ps, ⟨g0, t0, cs0, f0, p0, q0, hg0, ht0, hv0, hd0, _, _⟩, _, _⟩ := h
 obtain rfl := Option.some.inj (gK.symm.trans hg0)
 obtain rfl := Option.some.inj (tK.symm.trans ht0)
 obtain ⟨xs, m, _, hx1, hlen, hn, hel⟩ := DataW.trod_array Tryd.underlying112 hd0
 rw [laid_is] at hx1
 simp only [Prod.mk.injEq, DataW.agg.injEq] at hx1
 intro k hk
 have h1 := hel k hk
 rw [words_cells, List.getElem?_eq_getElem (by omega)] at h1
 obtain ⟨z, hz, hx, _⟩ := DataW.trod_int Tryd.underlying55 h1
 have h2 := congrArg (·[0]?) hz
 simp only [List.getElem?_take, Nat.mul_one, List.getElem?_drop, Nat.add_zero] at h2
 have h3 := congrArg (·[k]?) hx1.1
 simp only [List.getElem?_map] at h3
 rw [List.getElem?_eq_getElem (show k < xs.length by omega), List.getElem?_eq_getElem (show k < consts.length from hk), hx] at h3
 have h5 := World.var?_cell hg0 hv0 k
 rw [h5]
 simp only [Option.map_some, Option.some.injEq, DataW.lit.injEq, Lit.int.injEq, true_and] at h3
 have h4 : cs0.toList[k]? = some (.int .u32 z) := by simpa using h2
 rw [← Array.getElem?_toList, h4, ← h3, List.getD_eq_getElem?_getD, List.getElem?_eq_getElem (show k < consts.length from hk)]
 rfl
end Go.Proofs.YthichmclbiggmaaDoor
end
section
namespace Go.Sx
open Go.RowKit Go.Ch
theorem okI64 {n : Int} (h0 : -9223372036854775808 ≤ n) (h1 : n < 9223372036854775808) : okI .i64 n := by
 unfold okI IntKind.wrap
 simp [IntKind.bits, IntKind.signed]
 omega
theorem ite_t {α : Type} {b : Bool} {x y : α} (h : b = true) : (bif b then x else y) = x := by rw [h]; rfl
theorem ite_f {α : Type} {b : Bool} {x y : α} (h : b = false) : (bif b then x else y) = y := by rw [h]; rfl
theorem law_of {P : Program} {I : World → Prop} {f : FuncId} {F : Ct} {args : List AV} {H : Hp} {g : List Prop} {objs : List Oj} {ρ : Pls} {w : World} {vals : List Value} (h : FnOk P I f F) (hF : F args H = some (g, .c (.s (.b true)), objs)) (hg : allP g)
  (hI : I w) (hp : HpR ρ w H) (ha : F2 (avR ρ) args vals) : Calls P f vals.toArray w (Ret fun v w' => Ext w w' ∧ v = .bool true) :=
 calls_mono (h.ct args H g _ objs hF hg ρ w vals hI hp ha) fun _ _ ⟨hx, _, hL⟩ => ⟨hx, hL.val⟩
theorem in_b {w : World} {B : Nat} {v : Value} {l : List UInt8} (hv : Sl w B v (l.map bU)) (e : TypeId) : ∃ p, InSl w e l.length (.b l) v p := by
 have h := sl_slr hv
 rw [List.length_map] at h
 exact in_sl h (fun ρ => csR_b.2 rfl) e
theorem in_w {w : World} {B : Nat} {v : Value} {l : List UInt32} (hv : Sl w B v (l.map w32)) (e : TypeId) : ∃ p, InSl w e l.length (.w l) v p := by
 have h := sl_slr hv
 rw [List.length_map] at h
 exact in_sl h (fun ρ => csR_w.2 rfl) e
end Go.Sx
end
section
namespace Go.Sx
section
variable {α : Type} (b : Nat) (f : α → Nat) (g : Nat → α)
def vl (l : List α) : Nat := l.foldr (fun x r => f x + b * r) 0
theorem vl_nil : vl b f [] = 0 := rfl
theorem vl_cons (x : α) (l : List α) : vl b f (x :: l) = f x + b * vl b f l := rfl
theorem vl_app (l m : List α) : vl b f (l ++ m) = vl b f l + b ^ l.length * vl b f m := by
 induction l with
 | nil => simp [vl_nil]
 | cons x l ih => simp only [List.cons_append, vl_cons, ih, List.length_cons, Nat.pow_succ]; grind
theorem vl_split (l : List α) (i : Nat) : vl b f l = vl b f (l.take i) + b ^ i * vl b f (l.drop i) := by
 induction i generalizing l with
 | zero => simp [vl_nil]
 | succ i ih =>
  cases l with
  | nil => simp [vl_nil]
  | cons x l => simp only [List.take_succ_cons, List.drop_succ_cons, vl_cons, Nat.pow_succ]; have := ih l; grind
theorem vl_take {z : α} (l : List α) (i : Nat) (h : i < l.length) : vl b f (l.take (i + 1)) = vl b f (l.take i) + b ^ i * f (l.getD i z) := by
 rw [List.take_succ_eq_append_getElem h, vl_app, List.getD_eq_getElem?_getD, List.getElem?_eq_getElem h]
 simp [vl_cons, vl_nil, Nat.min_eq_left (Nat.le_of_lt h)]
theorem vl_drop {z : α} (l : List α) (i : Nat) (h : i < l.length) : vl b f (l.drop i) = f (l.getD i z) + b * vl b f (l.drop (i + 1)) := by
 rw [List.drop_eq_getElem_cons h, vl_cons, List.getD_eq_getElem?_getD, List.getElem?_eq_getElem h]; rfl
theorem vl_set {z : α} (l : List α) (i : Nat) (x : α) (h : i < l.length) : vl b f (l.set i x) + b ^ i * f (l.getD i z) = vl b f l + b ^ i * f x := by
 induction l generalizing i with
 | nil => simp at h
 | cons y l ih =>
  cases i with
  | zero => simp [vl_cons]; omega
  | succ i =>
   have := ih i (by simpa using h)
   simp only [List.set_cons_succ, vl_cons, Nat.pow_succ, List.getD_cons_succ]; grind
theorem vl_lt (l : List α) (h : ∀ x ∈ l, f x < b) : vl b f l < b ^ l.length := by
 induction l with
 | nil => simp [vl_nil]
 | cons x l ih =>
  have h1 := ih (fun y hy => h y (.tail _ hy))
  have h2 := h x (.head _)
  rw [vl_cons, List.length_cons, Nat.pow_succ]
  have : b * (vl b f l + 1) ≤ b * b ^ l.length := Nat.mul_le_mul_left b h1
  grind
theorem vl_rep {z : α} (hz : f z = 0) (n : Nat) : vl b f (List.replicate n z) = 0 := by
 induction n with
 | zero => rfl
 | succ n ih => rw [List.replicate_succ, vl_cons, ih, hz]; rfl
def dg (v : Nat) : List α := if h : 1 < b ∧ v ≠ 0 then g (v % b) :: dg (v / b) else []
termination_by v
decreasing_by exact Nat.div_lt_self (by omega) h.1
theorem dg_zero : dg b g 0 = [] := by rw [dg]; simp
theorem dg_pos (hb : 1 < b) {v : Nat} (h : v ≠ 0) : dg b g v = g (v % b) :: dg b g (v / b) := by rw [dg, dif_pos ⟨hb, h⟩]
theorem vl_dg (hb : 1 < b) (hfg : ∀ x < b, f (g x) = x) (v : Nat) : vl b f (dg b g v) = v := by
 induction v using Nat.strongRecOn with
 | _ v ih =>
  by_cases h : v = 0
  ·subst h; rw [dg_zero]; rfl
  ·rw [dg_pos b g hb h, vl_cons, ih _ (Nat.div_lt_self (by omega) hb), hfg _ (Nat.mod_lt _ (by omega)), Nat.mod_add_div]
theorem dg_len (hb : 1 < b) (v k : Nat) : (dg b g v).length ≤ k ↔ v < b ^ k := by
 induction k generalizing v with
 | zero =>
  by_cases h : v = 0
  ·subst h; simp [dg_zero]
  ·rw [dg_pos b g hb h]; simp; omega
 | succ k ih =>
  by_cases h : v = 0
  ·subst h; simp [dg_zero]; exact Nat.pow_pos (by omega)
  ·rw [dg_pos b g hb h, List.length_cons, Nat.add_le_add_iff_right, ih, Nat.pow_succ, Nat.div_lt_iff_lt_mul (by omega)]
theorem dg_mem (hb : 1 < b) {P : α → Prop} (hP : ∀ x < b, P (g x)) (v : Nat) : ∀ x ∈ dg b g v, P x := by
 induction v using Nat.strongRecOn with
 | _ v ih =>
  by_cases h : v = 0
  ·subst h; rw [dg_zero]; intro x hx; cases hx
  ·rw [dg_pos b g hb h]
   intro x hx
   cases hx with
   | head => exact hP _ (Nat.mod_lt _ (by omega))
   | tail _ hx => exact ih _ (Nat.div_lt_self (by omega) hb) x hx
theorem dg_vl (hb : 1 < b) (l : List α) (hl : ∀ x ∈ l, f x < b ∧ g (f x) = x) (h : ∀ h : l ≠ [], f (l.getLast h) ≠ 0) : dg b g (vl b f l) = l := by
 induction l with
 | nil => rw [vl_nil, dg_zero]
 | cons x l ih =>
  obtain ⟨h1, h2⟩ := hl x (.head _)
  have ih := ih (fun y hy => hl y (.tail _ hy)) (fun hn => by have := h (by simp); rwa [List.getLast_cons hn] at this)
  have hne : vl b f (x :: l) ≠ 0 := by
   rw [vl_cons]
   cases l with
   | nil => have := h (by simp); simp at this; omega
   | cons y l =>
    intro h0
    have : vl b f (y :: l) = 0 := by
     cases Nat.eq_zero_of_add_eq_zero_left h0 |> Nat.mul_eq_zero.1 with
     | inl h => omega
     | inr h => exact h
    rw [this, dg_zero] at ih
    cases ih
  rw [dg_pos b g hb hne, vl_cons, Nat.add_mul_mod_self_left, Nat.mod_eq_of_lt h1, h2, Nat.add_mul_div_left _ _ (by omega), Nat.div_eq_of_lt h1, Nat.zero_add, ih]
theorem dg_get (hb : 1 < b) {z : α} (hfg : ∀ x < b, f (g x) = x) (hz : f z = 0) (v i : Nat) : f ((dg b g v).getD i z) = v / b ^ i % b := by
 induction i generalizing v with
 | zero =>
  by_cases h : v = 0
  ·subst h; simp [dg_zero, hz]
  ·rw [dg_pos b g hb h]; simp; exact hfg _ (Nat.mod_lt _ (by omega))
 | succ i ih =>
  by_cases h : v = 0
  ·subst h; simp [dg_zero, hz]
  ·rw [dg_pos b g hb h, List.getD_cons_succ, ih, Nat.pow_succ, Nat.div_div_eq_div_mul, Nat.mul_comm]
end
abbrev B2 : Nat := 4294967296
def nV (l : List UInt32) : Nat := vl 4294967296 UInt32.toNat l
def nD (v : Nat) : List UInt32 := dg 4294967296 UInt32.ofNat v
def nZ (l : List Int) : Nat := vl 65536 Int.toNat l
def nE (v : Nat) : List Int := dg 65536 Int.ofNat v
theorem u32_lt (x : UInt32) : x.toNat < 4294967296 := x.toNat_lt
theorem u32_of (x : Nat) (h : x < 4294967296) : (UInt32.ofNat x).toNat = x := by simp; omega
theorem V_D (v : Nat) : nV (nD v) = v := vl_dg _ _ _ (by decide) u32_of v
theorem Z_E (v : Nat) : nZ (nE v) = v := vl_dg _ _ _ (by decide) (fun _ _ => rfl) v
theorem D_len (v k : Nat) : (nD v).length ≤ k ↔ v < 4294967296 ^ k := dg_len _ _ (by decide) v k
theorem E_len (v k : Nat) : (nE v).length ≤ k ↔ v < 65536 ^ k := dg_len _ _ (by decide) v k
theorem D_zero : nD 0 = [] := dg_zero _ _
theorem E_zero : nE 0 = [] := dg_zero _ _
theorem V_lt (l : List UInt32) : nV l < 4294967296 ^ l.length := vl_lt _ _ _ fun x _ => u32_lt x
def Dz (l : List Int) : Prop := ∀ x ∈ l, 0 ≤ x ∧ x < 65536
theorem E_dz (v : Nat) : Dz (nE v) := dg_mem _ _ (by decide) (fun x _ => ⟨Int.natCast_nonneg x, by show (x : Int) < 65536; omega⟩) v
theorem Z_lt {l : List Int} (h : Dz l) : nZ l < 65536 ^ l.length := vl_lt _ _ _ fun x hx => by have := h x hx; omega
theorem D_V {l : List UInt32} (h : ∀ h : l ≠ [], l.getLast h ≠ 0) : nD (nV l) = l :=
 dg_vl _ _ _ (by decide) l (fun x _ => ⟨u32_lt x, by simp⟩) fun hn h0 => h hn (UInt32.toNat_inj.1 h0)
theorem E_Z {l : List Int} (hl : Dz l) (h : ∀ h : l ≠ [], l.getLast h ≠ 0) : nE (nZ l) = l :=
 dg_vl _ _ _ (by decide) l (fun x hx => by have := hl x hx; exact ⟨by omega, by show ((x.toNat : Nat) : Int) = x; omega⟩) fun hn h0 => h hn (by have := hl _ (List.getLast_mem hn); omega)
theorem D_get (v i : Nat) : ((nD v).getD i 0).toNat = v / 4294967296 ^ i % 4294967296 := dg_get _ _ _ (by decide) u32_of rfl v i
theorem V_nil : nV [] = 0 := rfl
theorem V_cons (x : UInt32) (l : List UInt32) : nV (x :: l) = x.toNat + 4294967296 * nV l := rfl
theorem V_split (l : List UInt32) (i : Nat) : nV l = nV (l.take i) + 4294967296 ^ i * nV (l.drop i) := vl_split _ _ l i
theorem V_take (l : List UInt32) (i : Nat) (h : i < l.length) : nV (l.take (i + 1)) = nV (l.take i) + 4294967296 ^ i * (l.getD i 0).toNat := vl_take _ _ l i h
theorem V_drop (l : List UInt32) (i : Nat) (h : i < l.length) : nV (l.drop i) = (l.getD i 0).toNat + 4294967296 * nV (l.drop (i + 1)) := vl_drop _ _ l i h
theorem V_set (l : List UInt32) (i : Nat) (x : UInt32) (h : i < l.length) : nV (l.set i x) + 4294967296 ^ i * (l.getD i 0).toNat = nV l + 4294967296 ^ i * x.toNat := vl_set _ _ l i x h
theorem V_rep (n : Nat) : nV (List.replicate n 0) = 0 := vl_rep (z := (0 : UInt32)) _ _ rfl n
theorem Z_nil : nZ [] = 0 := rfl
theorem Z_cons (x : Int) (l : List Int) : nZ (x :: l) = x.toNat + 65536 * nZ l := rfl
theorem Z_app (l m : List Int) : nZ (l ++ m) = nZ l + 65536 ^ l.length * nZ m := vl_app _ _ l m
theorem Z_split (l : List Int) (i : Nat) : nZ l = nZ (l.take i) + 65536 ^ i * nZ (l.drop i) := vl_split _ _ l i
theorem Z_take (l : List Int) (i : Nat) (h : i < l.length) : nZ (l.take (i + 1)) = nZ (l.take i) + 65536 ^ i * (l.getD i 0).toNat := vl_take _ _ l i h
theorem Z_drop (l : List Int) (i : Nat) (h : i < l.length) : nZ (l.drop i) = (l.getD i 0).toNat + 65536 * nZ (l.drop (i + 1)) := vl_drop _ _ l i h
end Go.Sx
end
section
namespace Go.Sx
open Go.RowKit Go.Ch
structure Rd (α : Type) where
 rd : Hp → AV → Option α
 op : Nat → α → AV
 os : α → List Oj
 pr : α → Prop
 ok : ∀ {ρ : Pls} {w : World} {H : Hp} {x : AV} {a : α} {v : Value}, HpR ρ w H → rd H x = some a → avR ρ x v → pr a ∧ ∃ ps : List Pl, F2 (fun o p => ∀ ρ, objR ρ w p o) (os a) ps ∧ allRo (os a) = true ∧ ∀ (k : Nat) (ρ' : Pls), (∀ j p, ps[j]? = some p → ρ' (k + j) = p) → avR ρ' (op k a) v
structure RdL (α : Type) where
 n : Nat
 rd : Hp → List Cl → Option α
 op : Nat → α → List Cl
 os : α → List Oj
 ok : ∀ {ρ : Pls} {w : World} {H : Hp} {x : List Cl} {a : α} {v : List Value}, HpR ρ w H → rd H x = some a → F2 (clR ρ) x v → ∃ ps : List Pl, F2 (fun o p => ∀ ρ, objR ρ w p o) (os a) ps ∧ allRo (os a) = true ∧ ∀ (k : Nat) (ρ' : Pls), (∀ j p, ps[j]? = some p → ρ' (k + j) = p) → F2 (clR ρ') (op k a) v
theorem allRo_append : ∀ {a b : Hp}, allRo a = true → allRo b = true → allRo (a ++ b) = true
 | [], _, _, hb => hb
 | x :: l, b, ha, hb => by
  simp only [allRo, Bool.and_eq_true, List.cons_append] at ha ⊢
  exact ⟨ha.1, allRo_append ha.2 hb⟩
abbrev rB (e : TypeId) : Rd (List UInt8) := ⟨aB, fun k _ => kH k, fun l => [ob e l], fun _ => True, fun hp h hv => by
 obtain ⟨p, s, o⟩ := aB_ok hp h hv e
 exact ⟨True.intro, [p], F2.cons o F2.nil, rfl, fun k ρ' hk => by have e := hk 0 p rfl; rw [Nat.add_zero] at e; show _ = _; rw [e]; exact s⟩⟩
abbrev rW (e : TypeId) : Rd (List UInt32) := ⟨aW, fun k _ => kH k, fun l => [ow e l], fun _ => True, fun hp h hv => by
 obtain ⟨p, s, o⟩ := aW_ok hp h hv e
 exact ⟨True.intro, [p], F2.cons o F2.nil, rfl, fun k ρ' hk => by have e := hk 0 p rfl; rw [Nat.add_zero] at e; show _ = _; rw [e]; exact s⟩⟩
abbrev rZ (e : TypeId) : Rd (List Int) := ⟨aZ, fun k _ => kH k, fun l => [oz e l], fun _ => True, fun hp h hv => by
 obtain ⟨p, s, o⟩ := aZ_ok hp h hv e
 exact ⟨True.intro, [p], F2.cons o F2.nil, rfl, fun k ρ' hk => by have e := hk 0 p rfl; rw [Nat.add_zero] at e; show _ = _; rw [e]; exact s⟩⟩
abbrev rI : Rd Int := ⟨fun _ => aI, fun _ n => kI n, fun _ => [], fun _ => True, fun _ h hv => ⟨True.intro, [], F2.nil, rfl, fun _ _ _ => aI_ok h hv⟩⟩
abbrev rU8 : Rd UInt8 := ⟨fun _ => aU8, fun _ n => kU n, fun _ => [], fun _ => True, fun _ h hv => ⟨True.intro, [], F2.nil, rfl, fun _ _ _ => aU8_ok h hv⟩⟩
abbrev rU32 : Rd UInt32 := ⟨fun _ => aU32, fun _ n => kX n, fun _ => [], fun _ => True, fun _ h hv => ⟨True.intro, [], F2.nil, rfl, fun _ _ _ => aU32_ok h hv⟩⟩
abbrev rGb (m : Nat) : Rd (List UInt8) := ⟨fun _ => aGb m, fun _ l => .g m (.b l), fun _ => [], fun l => l.length = m, fun _ h hv => ⟨(aGb_ok h hv (plL [])).2, [], F2.nil, rfl, fun _ ρ' _ => (aGb_ok h hv ρ').1⟩⟩
abbrev rGw (m : Nat) : Rd (List UInt32) := ⟨fun _ => aGw m, fun _ l => .g m (.w l), fun _ => [], fun l => l.length = m, fun _ h hv => ⟨(aGw_ok h hv (plL [])).2, [], F2.nil, rfl, fun _ ρ' _ => (aGw_ok h hv ρ').1⟩⟩
structure RdC (α : Type) where
 r : Rd α
 cl : Nat → α → Cl
 eq : ∀ k a, r.op k a = .c (cl k a)
abbrev cW (e : TypeId) : RdC (List UInt32) := ⟨rW e, fun k _ => .wh k, fun _ _ => rfl⟩
abbrev lN : RdL Unit := ⟨0, fun _ x => match x with | [] => some () | _ => none, fun _ _ => [], fun _ => [], fun {ρ w H x a v} _ h hv => by
 cases x with
 | nil => exact ⟨[], F2.nil, rfl, fun _ _ _ => ⟨hv.1, fun j x y hx => by simp at hx⟩⟩
 | cons y ys => cases h⟩
abbrev lC {α β : Type} (c : RdC α) (l : RdL β) : RdL (α × β) := ⟨l.n + 1, fun H x => match x with | y :: ys => (match c.r.rd H (.c y) with | some a => (match l.rd H ys with | some b => some (a, b) | none => none) | none => none) | [] => none,
 fun k p => c.cl k p.1 :: l.op (k + (c.r.os p.1).length) p.2, fun p => c.r.os p.1 ++ l.os p.2, fun {ρ w H x a v} hp h hv => by
  cases x with
  | nil => cases h
  | cons y ys =>
   dsimp only at h
   split at h
   ·rename_i a1 h1
    split at h
    ·rename_i b1 h2
     injection h with h; subst h
     cases v with
     | nil => have := hv.1; simp at this
     | cons u us =>
      have hu : clR ρ y u := hv.2 0 y u rfl rfl
      have hus : F2 (clR ρ) ys us := ⟨by have := hv.1; simpa using this, fun j x y hx hy => hv.2 (j + 1) x y (by simpa using hx) (by simpa using hy)⟩
      obtain ⟨_, ps, f1, g1, k1⟩ := c.r.ok hp h1 (show avR ρ (.c y) u from hu)
      obtain ⟨qs, f2, g2, k2⟩ := l.ok hp h2 hus
      refine ⟨ps ++ qs, F2.append f1 f2, allRo_append g1 g2, fun k ρ' hk => ?_⟩
      have e1 := k1 k ρ' (fun j p hj => hk j p (by rw [List.getElem?_append_left (List.getElem?_eq_some_iff.1 hj).1]; exact hj))
      rw [c.eq] at e1
      refine F2.cons e1 (k2 _ ρ' fun j p hj => ?_)
      rw [f1.1, Nat.add_assoc]
      exact hk _ p (by rw [List.getElem?_append_right (by omega), Nat.add_sub_cancel_left]; exact hj)
    ·cases h
   ·cases h⟩
abbrev rSt {α : Type} (l : RdL α) : Rd α := ⟨fun H x => match aGc l.n x with | some y => l.rd H y | none => none, fun k a => .g l.n (.c (l.op k a)), l.os, fun _ => True, fun {ρ w H x a v} hp h hv => by
 split at h
 ·rename_i y hy
  have hg : ∃ vs : List Value, F2 (clR ρ) y vs ∧ vs.length = l.n ∧ v = .agg vs.toArray := by
   obtain ⟨vs, h1, rfl, h3⟩ := aGc_ok hy hv
   refine ⟨vs, ⟨?_, fun j x u hx hu => ?_⟩, h1, rfl⟩
   ·unfold aGc at hy
    split at hy
    ·split at hy
     ·rename_i hm
      simp only [Bool.and_eq_true] at hm
      injection hy with hy; subst hy
      rw [h1, ← Nat.eq_of_beq_eq_true hm.2]
     ·cases hy
    ·cases hy
   ·have := h3 j (by rw [← h1]; exact (List.getElem?_eq_some_iff.1 hu).1)
    rw [List.getD_eq_getElem?_getD, hx, List.getD_eq_getElem?_getD, hu] at this
    exact this
  obtain ⟨vs, h1, h2, rfl⟩ := hg
  obtain ⟨ps, f1, g1, k1⟩ := l.ok hp h h1
  exact ⟨True.intro, ps, f1, g1, fun k ρ' hk => ⟨vs, k1 k ρ' hk, h2, rfl⟩⟩
 ·cases h⟩
def HO (P : Program) (I : World → Prop) (f : FuncId) (F : Ct) (az : List AV) (os : Hp) : Prop :=
 ∀ (args : List AV) (H : Hp) (g : List Prop) (av : AV) (objs : List Oj), F args H = some (g, av, objs) → allP g → ∀ (ρ : Pls) (w : World) (vals : List Value), I w → HpR ρ w H → F2 (avR ρ) args vals →
  ∀ (ps : List Pl) (v0 : List Value), F2 (fun o p => ∀ ρ, objR ρ w p o) os ps → allRo os = true → (∀ ρ' : Pls, (∀ j p, ps[j]? = some p → ρ' j = p) → F2 (avR ρ') az v0) →
   Calls P f (v0 ++ vals).toArray w (Ret fun v w' => Ext w w' ∧ ∃ ps, Left ρ w H av objs v w' ps)
section
variable {P : Program} {I : World → Prop} {f : FuncId} {az : List AV} {os : Hp} {T : Tab}
theorem HO_c {α : Type} (r : Rd α) {K : α → Ct} (h : ∀ a, r.pr a → HO P I f (K a) (az ++ [r.op os.length a]) (os ++ r.os a)) : HO P I f (ctc r.rd fun _ => K) az os := by
 intro args H g av objs hF hg ρ w vals hI hp ha ps v0 f0 g0 k0
 obtain ⟨x, xs, a, rfl, hx, hF⟩ := ctc_inv hF
 obtain ⟨v, vs, rfl, hv, ha⟩ := F2.inv ha
 obtain ⟨hpr, qs, f1, g1, k1⟩ := r.ok hp hx hv
 have := h a hpr xs H g av objs hF hg ρ w vs hI hp ha (ps ++ qs) (v0 ++ [v]) (F2.append f0 f1) (allRo_append g0 g1) (fun ρ' hk => F2.append (k0 ρ' fun j p hj => hk j p (by rw [List.getElem?_append_left (List.getElem?_eq_some_iff.1 hj).1]; exact hj)) (F2.cons (k1 _ ρ' fun j p hj => by
  rw [f0.1]
  exact hk _ p (by rw [List.getElem?_append_right (by omega), Nat.add_sub_cancel_left]; exact hj)) F2.nil))
 rw [List.append_assoc] at this
 exact this
theorem HO_0 (hT : TabOk P T) (R : S) (rs : List ResultVar) (keep : List Nat) (n : Nat) {fn : Func} {c : Code} {gs : Prop} {x : AV} {os' : List Oj} (hf : P.funcs[f]? = some fn) (hW : ∀ w, I w → gs → W P n (noB (fun _ => undef)) w c ⟨args0 0 az, [], os⟩ (fun e s => (e = .ret ∨ e = .normal) ∧ s = R))
  (hb : fn.body = some c := by rfl) (hn : fn.ntmps = n := by rfl) (hres : fn.results = rs.toArray := by rfl) (hr : retS T R rs keep = some (x, os') := by kernel_rfl) (hl : Nat.ble az.length n = true := by kernel_rfl) :
  HO P I f (ct0 fun H => ([gs], shA H.length x, shH H.length os')) az os := by
 intro args H g av objs hF hg ρ w vals hI hp ha ps v0 f0 g0 k0
 obtain ⟨rfl, rfl, rfl, rfl⟩ := ct0_inv hF
 obtain rfl := F2.inv0 ha
 rw [List.append_nil]
 have hv := k0 (plL ps) (fun j p hj => by unfold plL; rw [hj])
 have hR0 := rel0 (gv := fun _ => undef) (n := n) (w := w) (gl := []) (hpL f0) (allRo_ok g0) hv GlR.nil (by rw [← hv.1]; exact Nat.le_of_ble_eq_true hl)
 refine calls_W hf hb hn hR0 (hW w hI hg) ?_
 rintro e s' ⟨he, rfl⟩
 exact ⟨he, fun a' w' hr' => retS_ok hT hr' (rs := rs) hres hr⟩
theorem fnok {F : Ct} {fn : Func} (hf : P.funcs[f]? = some fn) (h : HO P I f F [] []) (h1 : ((fn.name == "runtime.NumGoroutine") = false) := by kernel_rfl) (h2 : fn.body.isNone = false := by kernel_rfl) : FnOk P I f F :=
 ⟨fun args H g av objs hF hg ρ w vals hI hp ha => h args H g av objs hF hg ρ w vals hI hp ha [] [] F2.nil rfl (fun _ _ => F2.nil), fn, hf, h1, h2⟩
end
end Go.Sx
end
section
namespace Go.Proofs.YthichmclbiggmaaDoor
open Go.RowKit Go.Ch Go.Sx
theorem clone_info : (Tryd.prog.info? 55).map (fun i => (i.zero, i.size, i.bytes)) = some (some (.int .u32 0), 1, 4) := by kernel_rfl
theorem w32_one (l : List UInt32) : ∀ u ∈ l.map w32, u.oneCell' = true := by intro u hu; obtain ⟨x, _, rfl⟩ := List.mem_map.1 hu; rfl
set_option maxHeartbeats 400000 in
set_option maxRecDepth 100000 in
theorem clone_c (w : World) (B : Nat) (v : Value) (l : List UInt32) (hv : Sl w B v (l.map w32)) (hl : l.length ≤ 1000000000000) :
  Calls Tryd.prog 72 #[v] w (Ret fun v' w' => Ext w w' ∧ Own w' w.heap.size 55 v' (l.map w32)) := by
 obtain ⟨i55, hi55, hz55, hs55, hb55⟩ := info_parts clone_info
 go_enter Tryd.func72, Tryd.ntmps72
 go_wp2_with (first
  | ((with_reducible refine g_at (d := 4) ?_); refine wpl_eq_nil rfl Tryd.underlying23 hv ?_; intro b4 hb4; try (conv in (Act.put _ _ _) => simp only [Act.put, List.setIfInBounds_toArray, List.set_cons_succ, List.set_cons_zero]))
  | ((with_reducible refine g_at (d := 5) ?_); refine wpl_buildSlice (vs := []) Tryd.underlying23 hi55 hz55 hs55 rfl (xs := []) rfl rfl rfl (by simp) (by omega) ?_; intro v5 w5 h5 hx5 ha5; try (conv in (Act.put _ _ _) => simp only [Act.put, List.setIfInBounds_toArray, List.set_cons_succ, List.set_cons_zero]))
  | ((with_reducible refine g_at (d := 7) ?_); refine wpl_append (v := v5) rfl rfl Tryd.underlying23 hi55 hz55 hs55 hb55 rfl h5 (hv.ext hx5) (w32_one l) (by first | omega | (simp <;> omega)) (by omega) hx5.size ?_; intro v7 w7 h7 hg7 ha7 hx7; try (conv in (Act.put _ _ _) => simp only [Act.put, List.setIfInBounds_toArray, List.set_cons_succ, List.set_cons_zero])))
 ·go_ret
  have := hb4 (by assumption)
  exact ⟨_, rfl, Below.refl _ _, by rw [this]; exact World.ownsRow_nil _ _ _ _⟩
 ·go_ret
  exact ⟨_, rfl, hx5.trans hx7, by simpa using h7⟩
def clone_ct : Ct := fun args H => match args with
 | [x] => (match aW H x with | some l => some ([l.length ≤ 1000000000000], .c (.wh H.length), [⟨.row, 55, 1, l.length, .w l⟩]) | none => none)
 | _ => none
theorem clone_h : FnOk Tryd.prog Tr 72 clone_ct := by
 refine ⟨fun args H g av objs hF hg ρ w vals hG hp ha => ?_, _, Tryd.func72, by kernel_rfl, by kernel_rfl⟩
 unfold clone_ct at hF
 split at hF
 ·split at hF
  ·rename_i x l hl
   simp only [Option.some.injEq, Prod.mk.injEq] at hF
   obtain ⟨rfl, rfl, rfl⟩ := hF
   obtain ⟨v, vals, rfl, k, ha⟩ := F2.inv ha
   obtain rfl := F2.inv0 ha
   obtain ⟨p, hI⟩ := aW_ok hp hl k 55
   have hb : l.length ≤ 1000000000000 := by simpa [allP] using hg
   exact calls_mono (clone_c w _ v l (hI.sl (fun _ _ h => csR_w.1 h) (by simp)) hb) fun v w' ⟨hx, hv⟩ => ⟨hx, left_row hv (fun _ => csR_w.2 rfl) (by simp)⟩
  ·cases hF
 ·cases hF
end Go.Proofs.YthichmclbiggmaaDoor
end
