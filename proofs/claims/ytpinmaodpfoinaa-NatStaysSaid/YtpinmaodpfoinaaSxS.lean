import Derived.Test.YtpinmaodpfoinaaSxR
set_option linter.unusedVariables false
set_option linter.unusedSimpArgs false
namespace Go.Sx
open Go.RowKit Go.Ch
section
variable {P : Program} {T : Tab} {ft : Nat → FT} {ρ ρ' : Pls} {w w' : World} {bs : Bs} {w0 wB : World} {s s' : S} {a : Act} {N m : Nat}

/-! ### the free part of a drawn region, and what it leaves -/
def stA2 (T : Tab) (ft : Nat → FT) (N : Nat) (asm : List (Nat × Bool)) (s0 : S) (i : Nat) (o : Oper) (st : Ns) : Option (List Prop × Fe × Nat × Bool) := match dOk N o.dst, stN T (ft i) s0 st o with
  | true, some (g, x, c, d) => (match asm.lookup i with
    | none => some (g, x, c, d)
    | some bv => match x with
      | ⟨.c (.s (.b e)), none⟩ => some (g ++ [e = bv], ⟨.c (.s (.b bv)), none⟩, c, d)
      | _ => none)
  | _, _ => none
/-- some x: it is carried out, with this outcome; none: it is passed by -/
def stG2 (T : Tab) (ft : Nat → FT) (N : Nat) (ops : Array Oper) (asm : List (Nat × Bool)) (s0 : S) (i : Nat) (o : Oper) (st : Ns) : Option (Option (List Prop × Fe × Nat × Bool)) := match o.guard with
  | none => (match stA2 T ft N asm s0 i o st with | some r => some (some r) | none => none)
  | some (j, want) => match (ops[j]?).bind (·.dst) with
    | none => none
    | some dj => match st.fr.lookup dj with
      | some ⟨.c (.s (.b b)), none⟩ => (match b == want with
        | true => (match stA2 T ft N asm s0 i o st with | some r => some (some r) | none => none)
        | false => some none)
      | some ⟨.t [], none⟩ => some none
      | _ => none
def frN (T : Tab) (ft : Nat → FT) (N : Nat) (ops : Array Oper) (asm : List (Nat × Bool)) (s0 : S) : Nat → List Oper → Ns → Option (List Prop × Ns)
  | _, [], st => some ([], st)
  | i, o :: rest, st => match stG2 T ft N ops asm s0 i o st with
    | none => none
    | some none => (match dOk N o.dst with | true => frN T ft N ops asm s0 (i + 1) rest ⟨putN st.fr o.dst ⟨.t [], none⟩, st.cnt, st.dm⟩ | false => none)
    | some (some (g, x, c, d)) => match frN T ft N ops asm s0 (i + 1) rest ⟨putN st.fr o.dst x, c, d⟩ with
      | none => none
      | some (g2, st2) => some (g ++ g2, st2)
def FrE (ρ : Pls) (wB : World) (st : Ns) (a : Act) (w : World) : Prop := ∀ t x, st.fr.lookup t = some x → feR ρ wB x (a.tmps.getD t undef) w
theorem lkF {fr : FrN} {d t : Nat} {x : Fe} (h : (fr.filter (fun p => !(p.1 == d))).lookup t = some x) : fr.lookup t = some x ∧ t ≠ d := by
  induction fr with
  | nil => simp at h
  | cons q fr ih =>
    obtain ⟨k, z⟩ := q
    rw [List.filter_cons] at h
    split at h
    · rename_i hk
      have hkd : k ≠ d := by simpa using hk
      rw [List.lookup_cons] at h ⊢
      split at h
      · rename_i e
        have : t = k := by simpa using e
        subst this
        exact ⟨h, hkd⟩
      · exact ih h
    · rename_i hk
      have hkd : k = d := by simpa using hk
      obtain ⟨h1, h2⟩ := ih h
      refine ⟨?_, h2⟩
      rw [List.lookup_cons]
      split
      · rename_i e
        have : t = k := by simpa using e
        subst this; exact absurd hkd h2
      · exact h1
theorem lkPut {fr : FrN} {d : Option Nat} {t : Nat} {x y : Fe} (h : (putN fr d x).lookup t = some y) : (d = some t ∧ y = x) ∨ (d ≠ some t ∧ fr.lookup t = some y) := by
  cases d with
  | none => exact .inr ⟨by simp, h⟩
  | some d =>
    simp only [putN, List.lookup_cons] at h
    split at h
    · rename_i e
      have : t = d := by simpa using e
      subst this
      injection h with h; exact .inl ⟨rfl, h.symm⟩
    · obtain ⟨h1, h2⟩ := lkF h
      exact .inr ⟨by simpa using fun e => h2 e.symm, h1⟩
theorem lkDrop {fr : FrN} {d : Option Nat} {t : Nat} {y : Fe} (h : (dropN fr d).lookup t = some y) : d ≠ some t ∧ fr.lookup t = some y := by
  cases d with
  | none => exact ⟨by simp, h⟩
  | some d => obtain ⟨h1, h2⟩ := lkF h; exact ⟨by simpa using fun e => h2 e.symm, h1⟩
theorem stA2_ok (hT : TabOk P T) (hF : ∀ i, FtOk P (Ext wB) (ft i)) {asm : List (Nat × Bool)} {s0 : S} (hs : okS s0 = true) (hgl : GlR bs ρ s0.gl) (hhp : HpR ρ wB s0.H) {st : Ns} (hok : OkN s0.H.length st) {i : Nat} {o : Oper} {g : List Prop} {x : Fe} {c : Nat} {d : Bool} (h : stA2 T ft N asm s0 i o st = some (g, x, c, d)) (hg : allP g) :
    dOk N o.dst = true ∧ (st.cnt ≤ c ∧ (st.dm = true → d = true) ∧ (match x.nw with | none => pA (ltq s0.H.length) x.av = true | some (i, ob) => s0.H.length ≤ i ∧ i < c ∧ okOb s0.H.length ob = true ∧ pA (ltq1 s0.H.length i) x.av = true ∧ (ob.kd = .ro false → d = true))) ∧
    ∀ (a : Act) (w : World), Ext wB w → (∀ t y, Operand.tmp t ∈ o.op.operands.toList → st.fr.lookup t = some y → feR ρ wB y (a.tmps.getD t undef) w) →
      o.wp P a w (fun a' w' => ∃ v, a' = a.put o.dst v ∧ Ext w w' ∧ feR ρ wB x v w') (fun _ _ _ => False) := by
  unfold stA2 at h
  split at h
  · rename_i g1 x1 c1 d1 hd h1
    refine ⟨hd, ?_⟩
    split at h
    · injection h with h; simp only [Prod.mk.injEq] at h; obtain ⟨rfl, rfl, rfl, rfl⟩ := h
      exact stN_ok hT (hF i) hs hgl hhp hok h1 hg
    · split at h
      · rename_i bv _ e
        injection h with h; simp only [Prod.mk.injEq] at h; obtain ⟨rfl, rfl, rfl, rfl⟩ := h
        obtain ⟨ga, gb⟩ := allP_append.1 hg
        simp only [allP] at gb
        have := stN_ok hT (hF i) hs hgl hhp hok h1 ga
        rw [gb] at this
        exact this
      · cases h
  · cases h
def frI (fr : Fr) : FrN := fr.map fun p => (p.1, ⟨p.2, none⟩)
theorem frI_lk {fr : Fr} {t : Nat} {x : Fe} (h : (frI fr).lookup t = some x) : x.nw = none ∧ fr.lookup t = some x.av := by
  induction fr with
  | nil => simp [frI] at h
  | cons q fr ih =>
    obtain ⟨k, z⟩ := q
    simp only [frI, List.map_cons, List.lookup_cons] at h ⊢
    split at h
    · injection h with h; subst h; exact ⟨rfl, rfl⟩
    · exact ih h
theorem RW_fr (hT : TabOk P T) (hF : ∀ i, FtOk P (Ext wB) (ft i)) {asm : List (Nat × Bool)} {s0 : S} (hs : okS s0 = true) (hgl : GlR bs ρ s0.gl) (hhp : HpR ρ wB s0.H) {ops : Array Oper} {Q' : Act → World → Prop} {st' : Ns} (l : List Oper) :
    ∀ (i : Nat) (st : Ns) (E : Nat → Pred) (K : List (Option Tmp × Pred) → Prop) (g : List Prop), frN T ft N ops asm s0 i l st = some (g, st') → allP g → OkN s0.H.length st →
      (∀ t x, st.fr.lookup t = some x → ∀ v w, Ext wB w → E t v w → feR ρ wB x v w) →
      (∀ a w, Ext wB w → a.tmps.size = N → a.defers = [] → OkN s0.H.length st' → FrE ρ wB st' a w → Q' a w) →
      (∀ L, (∀ a w, Ext wB w → a.tmps.size = N → a.defers = [] → FrE ρ wB st a w → Fin Q' L a w) → K L) → RW P ops Ext wB l E K := by
  induction l with
  | nil =>
    intro i st E K g h hg hok _ hQ hK
    injection h with h; simp only [Prod.mk.injEq] at h; obtain ⟨rfl, rfl⟩ := h
    exact hK [] fun a w h1 h2 h3 h4 => hQ a w h1 h2 h3 hok h4
  | cons o rest ih =>
    intro i st E K g h hg hok hE hQ hK
    simp only [frN] at h
    have look : ∀ {t : Nat} {x : Fe}, st.fr.lookup t = some x → ∀ {a : Act} {w : World}, Ext wB w → t ∈ o.looksAt ops → (∀ t ∈ o.looksAt ops, E t (a.tmps.getD t undef) w) → feR ρ wB x (a.tmps.getD t undef) w :=
      fun hx _ _ hX ht hEa => hE _ _ hx _ _ hX (hEa _ ht)
    have opLook : ∀ {t : Nat}, Operand.tmp t ∈ o.op.operands.toList → t ∈ o.looksAt ops := fun hx => List.mem_append_left _ (List.mem_filterMap.2 ⟨.tmp _, by simpa using hx, rfl⟩)
    have gLook : ∀ {j : Nat} {want : Bool} {dj : Nat}, o.guard = some (j, want) → (ops[j]?).bind (·.dst) = some dj → dj ∈ o.looksAt ops := fun hgd hd => by
      unfold Oper.looksAt; rw [hgd]; simp [hd]
    have wnt : ∀ {j : Nat} {want b : Bool} {dj : Nat}, o.guard = some (j, want) → (ops[j]?).bind (·.dst) = some dj → st.fr.lookup dj = some ⟨.c (.s (.b b)), none⟩ → ∀ {a : Act} {w : World}, Ext wB w → (∀ t ∈ o.looksAt ops, E t (a.tmps.getD t undef) w) → Region.wanted o (yielded ops a.tmps) = (b == want) := fun hgd hd hb _ _ hX hEa =>
      wanted_b hgd hd (look hb hX (gLook hgd hd) hEa)
    have skipC : dOk N o.dst = true → (∀ (a : Act) (w : World), Ext wB w → (∀ t ∈ o.looksAt ops, E t (a.tmps.getD t undef) w) → Region.wanted o (yielded ops a.tmps) = false) →
        frN T ft N ops asm s0 (i + 1) rest ⟨putN st.fr o.dst ⟨.t [], none⟩, st.cnt, st.dm⟩ = some (g, st') → RW P ops Ext wB (o :: rest) E K := fun hdk hw h1 => by
      refine ⟨fun v _ => v = undef, fun _ _ _ _ h => h, fun a w hX _ hEa => ?_, ih (i + 1) _ _ _ _ h1 hg ⟨hok.1, fun t x hx => ?_⟩ (fun t x hx v w hX hv => ?_) hQ (fun L hL => hK _ fun a w hX hn hd hFr => fun v hv => hL _ w hX (by rw [put_size]; exact hn) (by rw [put_defers]; exact hd) fun t x hx => ?_)⟩
      · rw [hw a w hX hEa]
        have e : ¬ (false = true) := fun h => Bool.noConfusion h
        rw [if_neg e]
      · rcases lkPut hx with ⟨_, rfl⟩ | ⟨_, h2⟩
        · rfl
        · exact hok.2 t x h2
      · unfold Go.Ch.upd at hv
        rcases lkPut hx with ⟨hd, rfl⟩ | ⟨h2, h3⟩
        · rw [hd] at hv
          have e : (if t = t then (fun v _ => v = undef) else E t) v w := hv
          rw [if_pos rfl] at e
          exact ⟨[], F2.nil, e⟩
        · refine hE t x h3 v w hX ?_
          cases hd : o.dst with
          | none => rw [hd] at hv; exact hv
          | some d => rw [hd] at hv h2; have e : (if t = d then (fun v _ => v = undef) else E t) v w := hv; rw [if_neg (fun e => h2 (by rw [e]))] at e; exact e
      · rcases lkPut hx with ⟨hd2, rfl⟩ | ⟨h2, h3⟩
        · rw [hd2] at hdk ⊢
          rw [getD_put_same a v t (by have := dOk_ok hdk hn t rfl; exact this)]
          exact ⟨[], F2.nil, hv⟩
        · rw [getD_put_other a o.dst v t h2]
          exact hFr t x h3
    have doC : ∀ {g1 g2 : List Prop} {x1 : Fe} {c1 : Nat} {d1 : Bool}, stA2 T ft N asm s0 i o st = some (g1, x1, c1, d1) → g = g1 ++ g2 → (∀ (a : Act) (w : World), Ext wB w → (∀ t ∈ o.looksAt ops, E t (a.tmps.getD t undef) w) → Region.wanted o (yielded ops a.tmps) = true) →
        frN T ft N ops asm s0 (i + 1) rest ⟨putN st.fr o.dst x1, c1, d1⟩ = some (g2, st') → RW P ops Ext wB (o :: rest) E K := fun {g1 g2 x1 c1 d1} hA hge hw h1 => by
      subst hge
      obtain ⟨ga, gb⟩ := allP_append.1 hg
      obtain ⟨hdk, ⟨k1, k2, k3⟩, hwp⟩ := stA2_ok hT hF hs hgl hhp hok hA ga
      refine ⟨fun v w => feR ρ wB x1 v w, fun _ _ _ hX h => feR_ext hX h, fun a w hX _ hEa => ?_, ih (i + 1) _ _ _ _ h1 gb ⟨Nat.le_trans hok.1 k1, fun t x hx => ?_⟩ (fun t x hx v w hX hv => ?_) hQ (fun L hL => hK _ fun a w hX hn hd hFr => fun v hv => hL _ w hX (by rw [put_size]; exact hn) (by rw [put_defers]; exact hd) fun t x hx => ?_)⟩
      · rw [hw a w hX hEa]
        rw [if_pos rfl]; exact hwp a w hX (fun t y hop hy => look hy hX (opLook hop) hEa)
      · rcases lkPut hx with ⟨_, rfl⟩ | ⟨_, h2⟩
        · exact k3
        · have := hok.2 t x h2
          cases hn : x.nw with
          | none => rw [hn] at this; exact this
          | some io => obtain ⟨i', ob⟩ := io; rw [hn] at this; exact ⟨this.1, Nat.lt_of_lt_of_le this.2.1 k1, this.2.2.1, this.2.2.2.1, fun e => k2 (this.2.2.2.2 e)⟩
      · unfold Go.Ch.upd at hv
        rcases lkPut hx with ⟨hd, rfl⟩ | ⟨hd, h2⟩
        · rw [hd] at hv
          have e : (if t = t then (fun v w => feR ρ wB x v w) else E t) v w := hv
          rw [if_pos rfl] at e
          exact e
        · refine hE t x h2 v w hX ?_
          cases hd2 : o.dst with
          | none => rw [hd2] at hv; exact hv
          | some d => rw [hd2] at hv hd; have e : (if t = d then (fun v w => feR ρ wB x1 v w) else E t) v w := hv; rw [if_neg (fun e => hd (by rw [e]))] at e; exact e
      · rcases lkPut hx with ⟨hd2, rfl⟩ | ⟨hd2, h2⟩
        · rw [hd2] at hdk ⊢
          rw [getD_put_same a v t (by have := dOk_ok hdk hn t rfl; exact this)]
          exact hv
        · rw [getD_put_other a o.dst v t hd2]
          exact hFr t x h2
    split at h
    · cases h
    · rename_i hG
      split at h
      · rename_i hdk
        unfold stG2 at hG
        split at hG
        · split at hG <;> cases hG
        · rename_i j want hgd
          split at hG
          · cases hG
          · rename_i dj hdj
            split at hG
            · rename_i b hb
              split at hG
              · split at hG <;> cases hG
              · rename_i hbw
                exact skipC hdk (fun a w hX hEa => by rw [wnt hgd hdj hb hX hEa]; exact hbw) h
            · rename_i hb
              exact skipC hdk (fun a w hX hEa => wanted_u hgd hdj (undef_of (look hb hX (gLook hgd hdj) hEa))) h
            · cases hG
      · cases h
    · rename_i g1 x1 c1 d1 hG
      split at h
      · cases h
      · rename_i g2 st2 h2
        injection h with h; simp only [Prod.mk.injEq] at h; obtain ⟨rfl, rfl⟩ := h
        unfold stG2 at hG
        split at hG
        · rename_i hgd
          split at hG
          · rename_i r hr
            injection hG with hG; injection hG with hG; subst hG
            exact doC hr rfl (fun a w _ _ => by unfold Region.wanted; rw [hgd]) h2
          · cases hG
        · rename_i j want hgd
          split at hG
          · cases hG
          · rename_i dj hdj
            split at hG
            · rename_i b hb
              split at hG
              · rename_i hbw
                split at hG
                · rename_i r hr
                  injection hG with hG; injection hG with hG; subst hG
                  exact doC hr rfl (fun a w hX hEa => by rw [wnt hgd hdj hb hX hEa]; exact hbw) h2
                · cases hG
              · cases hG
            · cases hG
            · cases hG

/-- own objects of the free part lie apart, if they are told apart by what they hold -/
def ap2 (o o' : Oj) : Bool := (!o.own && !o'.own) || (o.own && o'.own && !(Nat.beq o.e o'.e))
def ap1 (o : Oj) : List Oj → Bool
  | [] => true
  | x :: l => ap2 o x && ap1 o l
def apL : List Oj → Bool
  | [] => true
  | o :: l => ap1 o l && apL l
theorem ap1_ok {o : Oj} : ∀ {l : List Oj}, ap1 o l = true → ∀ (k : Nat) (x : Oj), l[k]? = some x → ap2 o x = true
  | [], _, k, x, h => by simp at h
  | y :: l, h, k, x, hx => by
    simp only [ap1, Bool.and_eq_true] at h
    cases k with
    | zero => simp at hx; subst hx; exact h.1
    | succ k => exact ap1_ok h.2 k x (by simpa using hx)
theorem apL_ok : ∀ {l : List Oj}, apL l = true → ∀ (i j : Nat) (x y : Oj), i < j → l[i]? = some x → l[j]? = some y → ap2 x y = true
  | [], _, i, j, x, y, _, h, _ => by simp at h
  | z :: l, h, i, j, x, y, hij, hx, hy => by
    simp only [apL, Bool.and_eq_true] at h
    cases j with
    | zero => omega
    | succ j =>
      cases i with
      | zero => simp at hx; subst hx; exact ap1_ok h.1 j y (by simpa using hy)
      | succ i => exact apL_ok h.2 i j x y (by omega) (by simpa using hx) (by simpa using hy)
theorem ap_sep {p p' : Pl} {o o' : Oj} {g : Nat} (h : ap2 o o' = true) (h1 : objR ρ w p o) (h2 : objR ρ' w p' o') (ho : o.own = true ∨ o'.own = true) (hat : objAt p o g) (hat' : objAt p' o' g) : False := by
  unfold ap2 at h
  simp only [Bool.or_eq_true, Bool.and_eq_true, Bool.not_eq_true'] at h
  rcases h with ⟨ha, hb⟩ | ⟨⟨ha, hb⟩, hc⟩
  · rcases ho with e | e
    · rw [e] at ha; cases ha
    · rw [e] at hb; cases hb
  · have blk : ∀ {ρ : Pls} {p : Pl} {o : Oj}, objR ρ w p o → o.own = true → objAt p o g → ∃ cur, w.heap[g]? = some (.cells cur o.e (0, 0)) := by
      intro ρ p o hr hown hat
      obtain ⟨ad, hA, hg⟩ : ∃ ad, p.A = some ad ∧ ad.block = g := by
        unfold objAt at hat
        unfold Oj.own at hown
        cases hk : o.kd with
        | dead => rw [hk] at hown; cases hown
        | ro _ => rw [hk] at hown; cases hown
        | row => simpa [hk] using hat
        | blk => simpa [hk] using hat
      obtain ⟨vs, g', cur, _, rfl, hh, _⟩ := own_block hr hown hA
      simp only at hg
      subst hg
      exact ⟨cur, hh⟩
    obtain ⟨c1, e1⟩ := blk h1 ha hat
    obtain ⟨c2, e2⟩ := blk h2 hb hat'
    rw [e1] at e2
    injection e2 with e2
    injection e2 with _ e3
    rw [e3, Nat.beq_refl] at hc
    cases hc
def demK (b : Bool) (o : Oj) : Oj := match b, o.kd with
  | true, .row => ⟨.ro true, o.e, o.sz, o.n, o.cs⟩
  | true, .blk => ⟨.dead, o.e, o.sz, o.n, o.cs⟩
  | _, _ => o
theorem demK_cs (b : Bool) (o : Oj) : (demK b o).cs = o.cs := by unfold demK; split <;> rfl
theorem demK_ok {b : Bool} {o : Oj} {p : Pl} (h : objR ρ w p o) : objR ρ w p (demK b o) := by
  unfold demK
  split
  · rename_i hk
    have h1 := h.slc (.inr hk)
    obtain ⟨h2, h3⟩ := h.read (by rw [hk]; simp)
    exact ⟨h2, h1, h3⟩
  · exact True.intro
  · exact h
theorem demK_at {b : Bool} {o : Oj} {p : Pl} {g : Nat} (h : objAt p (demK b o) g) : objAt p o g := by
  unfold demK at h
  split at h
  · rename_i hk
    unfold objAt at h ⊢
    simp only [hk] at h ⊢
    exact h.2
  · exact absurd h (fun e => e)
  · exact h
theorem demK_ro {b : Bool} {o : Oj} (h : (demK b o).kd = .ro false) : o.kd = .ro false := by
  unfold demK at h
  split at h
  · cases h
  · cases h
  · exact h
def objsN (m j i : Nat) : List Nat := List.range m ++ List.replicate j (i + 1) ++ [i]
theorem objsN_lt {m j i k : Nat} (h : k < m) : (objsN m j i)[k]? = some k := by
  unfold objsN
  rw [List.getElem?_append_left (by simp; omega), List.getElem?_append_left (by simpa using h)]
  simp [h]
theorem objsN_at {m j i : Nat} : (objsN m j i)[m + j]? = some i := by
  unfold objsN
  rw [List.getElem?_append_right (by simp)]
  simp
/-- the slots that are kept, the new objects numbered as they come -/
def asmN (m : Nat) (fr : FrN) : Nat → List (Nat × Bool) → Option (Fr × List Oj)
  | _, [] => some ([], [])
  | j, (t, dmt) :: ks => match fr.lookup t with
    | some ⟨av, some (i, o)⟩ => (match rnA (objsN m j i) av, asmN m fr (j + 1) ks with
      | some y, some (r, os) => (match pA (ltq1 m (m + j)) y with | true => some ((t, y) :: r, demK dmt o :: os) | false => none)
      | _, _ => none)
    | some ⟨av, none⟩ => (match asmN m fr j ks with | some (r, os) => some ((t, av) :: r, os) | none => none)
    | none => none
theorem asmN_ok {st : Ns} {a : Act} {w : World} (hok : OkN m st) : ∀ (ks : List (Nat × Bool)) (j : Nat) (fr : Fr) (os : List Oj), (∀ t x, t ∈ ks.map Prod.fst → st.fr.lookup t = some x → feR ρ wB x (a.tmps.getD t undef) w) → asmN m st.fr j ks = some (fr, os) →
    ∃ ps : List Pl, ps.length = os.length ∧ (∀ (k : Nat) (o : Oj) (p : Pl), os[k]? = some o → ps[k]? = some p → (∀ ρ' : Pls, (∀ i, i < m → ρ' i = ρ i) → objR ρ' w p o) ∧ (∀ g, objAt p o g → wB.heap.size ≤ g ∨ o.kd = .ro false) ∧ (o.kd = .ro false → st.dm = true)) ∧
      ∀ ρ' : Pls, (∀ i, i < m → ρ' i = ρ i) → (∀ (k : Nat) (p : Pl), ps[k]? = some p → ρ' (m + j + k) = p) → FrR ρ' fr a
  | [], j, fr, os, _, h => by
    injection h with h; simp only [Prod.mk.injEq] at h; obtain ⟨rfl, rfl⟩ := h
    exact ⟨[], rfl, fun k o p ho => by simp at ho, fun _ _ _ t x hx => by simp at hx⟩
  | (t, dmt) :: ks, j, fr, os, hE, h => by
    have hE' : ∀ t x, t ∈ ks.map Prod.fst → st.fr.lookup t = some x → feR ρ wB x (a.tmps.getD t undef) w := fun t x ht => hE t x (List.mem_cons_of_mem _ ht)
    simp only [asmN] at h
    split at h
    · rename_i av i o ht
      split at h
      · rename_i y r os' hy hr
        split at h
        · rename_i hp
          injection h with h; simp only [Prod.mk.injEq] at h; obtain ⟨rfl, rfl⟩ := h
          obtain ⟨ps, h1, h2, h3⟩ := asmN_ok hok ks (j + 1) r os' hE' hr
          have hk := hok.2 t _ ht
          simp only at hk
          obtain ⟨k1, k2, k3, k4, k5⟩ := hk
          have he := hE t _ (by simp) ht
          unfold feR at he
          simp only at he
          obtain ⟨p, e1, e2, e3⟩ := he
          have hob := k3
          unfold okOb at hob
          simp only [Bool.and_eq_true] at hob
          refine ⟨p :: ps, by simp [h1], fun k ob q ho hq => ?_, fun ρ' hρ hat t' x hx => ?_⟩
          · cases k with
            | zero =>
              simp at ho hq; subst ho; subst hq
              refine ⟨fun ρ' hρ => ?_, fun g hg => ?_, fun e => k5 (demK_ro e)⟩
              · refine objR_p (q := ltq m) (fun i hi => ?_) (by rw [demK_cs]; exact hob.1) (demK_ok e1)
                unfold ltq at hi; simp only [decide_eq_true_eq] at hi; exact hρ i hi
              · rcases e2 g (demK_at hg) with h5 | h5
                · exact .inl h5
                · refine .inr ?_
                  unfold demK
                  rw [h5]; simp
                  exact h5
            | succ k => exact h2 k ob q (by simpa using ho) (by simpa using hq)
          · rw [List.lookup_cons] at hx
            split at hx
            · rename_i et
              have : t' = t := by simpa using et
              subst this
              injection hx with hx; subst hx
              refine pA_ok (q := ltq1 m (m + j)) (fun i' hi => ?_) hp (rnA_ok hy e3)
              unfold ltq1 at hi
              simp only [Bool.or_eq_true, decide_eq_true_eq] at hi
              rcases hi with hi | hi
              · rw [hρ i' hi, plK_at (objsN_lt hi)]
                exact (upd_lt (ρ := ρ) (m := i) i' (by omega)).symm
              · have e := Nat.eq_of_beq_eq_true hi
                subst e
                rw [plK_at objsN_at, upd_at]
                have := hat 0 p rfl
                simpa using this
            · exact h3 ρ' hρ (fun k q hq => by have := hat (k + 1) q (by simpa using hq); rw [← this]; congr 1; omega) t' x hx
        · cases h
      · cases h
    · rename_i av ht
      split at h
      · rename_i r os' hr
        injection h with h; simp only [Prod.mk.injEq] at h; obtain ⟨rfl, rfl⟩ := h
        obtain ⟨ps, h1, h2, h3⟩ := asmN_ok hok ks j r os' hE' hr
        refine ⟨ps, h1, h2, fun ρ' hρ hat t' x hx => ?_⟩
        rw [List.lookup_cons] at hx
        split at hx
        · rename_i et
          have : t' = t := by simpa using et
          subst this
          injection hx with hx; subst hx
          have hk := hok.2 t' _ ht
          have he := hE t' _ (by simp) ht
          unfold feR at he
          simp only at hk he
          refine pA_ok (q := ltq m) (fun i hi => ?_) hk he
          unfold ltq at hi; simp only [decide_eq_true_eq] at hi; exact hρ i hi
        · exact h3 ρ' hρ hat t' x hx
      · cases h
    · cases h
/-- the state behind the free part -/
def freeS (T : Tab) (ft : Nat → FT) (N k : Nat) (asm : List (Nat × Bool)) (ks : List (Nat × Bool)) (ops : List Oper) (s : S) : Option (List Prop × S) :=
  match okS s, frN T ft N ops.toArray asm s 0 (ops.take k) ⟨frI s.fr, s.H.length, false⟩ with
  | true, some (g, st) => (match asmN s.H.length st.fr 0 ks with
    | some (fr, os) => (match okS ⟨s.fr, s.gl, demI st.dm s.H⟩, apL os with
      | true, true => some (g, ⟨fr, s.gl, demI st.dm s.H ++ os⟩)
      | _, _ => none)
    | none => none)
  | _, _ => none
def regD (T : Tab) (ft : Nat → FT) (N k : Nat) (asm : List (Nat × Bool)) (ks : List (Nat × Bool)) (cs : List Co) (live objs : List Nat) (ops : List Oper) (s : S) : Option (List Prop × S) :=
  match freeS T ft N k asm ks ops s with
  | some (g, s1) => (match exR T ft N ops.toArray asm k (ops.drop k) s1 with
    | some (g2, s2) => (match after cs live objs s2 with | some s3 => some (g ++ g2, s3) | none => none)
    | none => none)
  | none => none
theorem ltC_p {c : Cl} (h : ltC m c = true) : pC (ltq m) c = true := by cases c <;> first | rfl | exact h
theorem ltL_p : ∀ {l : List Cl}, ltL m l = true → pL (ltq m) l = true
  | [], _ => rfl
  | c :: l, h => by
    simp only [ltL, Bool.and_eq_true] at h
    simp only [pL, Bool.and_eq_true]
    exact ⟨ltC_p h.1, ltL_p h.2⟩
theorem ltX_p {cs : Cs} (h : ltX m cs = true) : pX (ltq m) cs = true := by cases cs <;> first | rfl | exact ltL_p h
theorem lt1_p {x : A1} (h : lt1 m x = true) : p1 (ltq m) x = true := by
  cases x with
  | c x => exact ltC_p h
  | g n cs => exact ltX_p h
theorem lt1s_p : ∀ {l : List A1}, lt1s m l = true → p1s (ltq m) l = true
  | [], _ => rfl
  | c :: l, h => by
    simp only [lt1s, Bool.and_eq_true] at h
    simp only [p1s, Bool.and_eq_true]
    exact ⟨lt1_p h.1, lt1s_p h.2⟩
theorem ltA_p {x : AV} (h : ltA m x = true) : pA (ltq m) x = true := by
  cases x with
  | c x => exact ltC_p h
  | g n cs => exact ltX_p h
  | t xs => exact lt1s_p h
theorem W_regD (hT : TabOk P T) (hF : ∀ i, FtOk P (Kp bs w0) (ft i)) (hm : P.follows .mixedOrders = true) {id : Nat} {l : List Oper} (k : Nat) (asm ks : List (Nat × Bool)) (cs : List Co) (live objs : List Nat) {g : List Prop} {s' : S}
    (hr : (okRegion l.toArray k N && decide (k ≤ l.length)) = true) (h : regD T ft N k asm ks cs live objs l s = some (g, s')) (hg : allP g) {Q : Exit → S → Prop} (hQ : Q .normal s') :
    W P N bs w0 (.region id l.toArray true) s Q := by
  intro a w hR
  simp only [Bool.and_eq_true] at hr
  obtain ⟨hreg, hkl⟩ := hr
  unfold regD at h
  split at h
  · rename_i g1 s1 h1
    split at h
    · rename_i g2 s2 h2
      split at h
      · rename_i s3 h3
        injection h with h; simp only [Prod.mk.injEq] at h; obtain ⟨rfl, rfl⟩ := h
        obtain ⟨ga, gb⟩ := allP_append.1 hg
        unfold freeS at h1
        split at h1
        · rename_i g' st hs hfr
          split at h1
          · rename_i fr os has
            split at h1
            · rename_i hsI hap
              injection h1 with h1; simp only [Prod.mk.injEq] at h1; obtain ⟨rfl, rfl⟩ := h1
              obtain ⟨r1, r2, ρ, r3⟩ := hR
              have hxd : ∀ {w' : World}, Ext w.drew w' → Kp bs w0 w' := fun hx => (r3.kp.drew).ext hx
              have hhp : HpR ρ w.drew s.H := fun i o ho => (r3.hp i o ho).keep fun _ _ _ => rfl
              refine wp_region_rel k N Ext hm hreg hkl r2 r1 (fun w => Below.refl _ _) (fun _ _ _ h1 h2 => Ext.tr h1 h2) ?_
              refine RW_fr hT (fun i f F h => ⟨fun args H g av objs h1 h2 ρ w' vals h3 => (hF i f F h).1 args H g av objs h1 h2 ρ w' vals (hxd h3), (hF i f F h).2⟩) hs r3.gl hhp (Q' := fun a' w' => wpList P l.toArray (fun ex a' w' => ∃ s', Q ex s' ∧ Rel N bs w0 s' a' w') (l.drop k) a' w') (l.take k) 0 _ _ _ _ hfr ga ?_ ?_ ?_ ?_
              · exact ⟨Nat.le_refl _, fun t x hx => by
                  obtain ⟨e1, e2⟩ := frI_lk hx
                  rw [e1]
                  exact ltA_p (ltF_ok (okS_ok hs).1 t _ e2)⟩
              · intro t x hx v w' hX hv
                obtain ⟨e1, e2⟩ := frI_lk hx
                unfold feR
                rw [e1]
                have hv' : v = a.tmps.getD t undef := hv
                subst hv'
                exact r3.fr t _ e2
              · intro a' w' hX hn hd hok hE
                obtain ⟨ps, hl, hps, hfin⟩ := asmN_ok hok ks 0 fr os (fun t x _ hx => hE t x hx) has
                have hlenI : (demI st.dm s.H).length = s.H.length := by unfold demI; split; exact demO_len _; rfl
                have hRI : RelA ρ bs w0 ⟨s.fr, s.gl, demI st.dm s.H⟩ a w := by
                  unfold demI; split
                  · exact r3.dem
                  · exact r3
                refine exR_ok hT hF _ k g2 _ a' w' h2 gb ⟨hd, hn, updL ρ s.H.length ps, ?_⟩ (fun a2 w2 hr => ⟨_, hQ, after_ok h3 hr⟩)
                have hsep := apL_ok hap
                have hU : ∀ i, i < s.H.length → updL ρ s.H.length ps i = ρ i := updL_lt
                have hUat : ∀ (k : Nat) (p : Pl), ps[k]? = some p → updL ρ s.H.length ps (s.H.length + k) = p := fun k p hp => updL_at hp
                have hold : ∀ {j : Nat} {x : Oj} {g : Nat}, (demI st.dm s.H)[j]? = some x → objAt (ρ j) x g → g < w.heap.size := fun hj hat => objAt_lt (hRI.hp _ _ hj) hat
                have e : updL ρ s.H.length ps = updL ρ (demI st.dm s.H).length ps := by rw [hlenI]
                have hobj : ∀ (k : Nat) (o : Oj) (p : Pl), os[k]? = some o → ps[k]? = some p → objR (updL ρ s.H.length ps) w' p o := fun k o p ho hp => (hps k o p ho hp).1 _ hU
                have sep2 : ∀ (k l : Nat) (o o' : Oj) (p p' : Pl) (g : Nat), k ≠ l → os[k]? = some o → os[l]? = some o' → ps[k]? = some p → ps[l]? = some p' → o.own = true → objAt p o g → ¬ objAt p' o' g := by
                  intro k l o o' p p' g hkl ho ho' hp hp' hown hat hat'
                  rcases Nat.lt_or_gt_of_ne hkl with hlt | hlt
                  · exact ap_sep (hsep k l o o' hlt ho ho') (hobj k o p ho hp) (hobj l o' p' ho' hp') (.inl hown) hat hat'
                  · exact ap_sep (hsep l k o' o hlt ho' ho) (hobj l o' p' ho' hp') (hobj k o p ho hp) (.inr hown) hat' hat
                have place : ∀ (k : Nat) (o : Oj) (p : Pl) (g : Nat), os[k]? = some o → ps[k]? = some p → objAt p o g → w.heap.size ≤ g ∨ o.kd = .ro false := fun k o p g ho hp hat => (hps k o p ho hp).2.1 g hat
                have hfr := hfin _ hU (fun k p hp => by have := hUat k p hp; simpa using this)
                rw [e] at hobj hfr ⊢
                refine RelA.news (w := w) (s := ⟨s.fr, s.gl, demI st.dm s.H⟩) hRI hsI hl rfl (fun j x hj => .inr ⟨hj, (hRI.hp j x hj).keep fun g hlt _ => hX.block g hlt⟩) (hxd hX) hobj (fun k o p j x g ho hp hj hxk hat hor hat2 => ?_) sep2 (fun k o p ho hp hfs g hat => ?_) _ _ hfr
                · rcases place k o p g ho hp hat with hge | hro
                  · have := hold hj hat2
                    omega
                  · have hyes := (hps k o p ho hp).2.2 hro
                    have hj2 : (demO s.H)[j]? = some x := by rw [hyes] at hj; exact hj
                    obtain ⟨_, _, hno, _⟩ := demO_at hj2
                    rcases hor with h1 | h1
                    · rw [hno] at h1; cases h1
                    · unfold Oj.own at h1; rw [hro] at h1; cases h1
                · rcases place k o p g ho hp hat with hge | hro
                  · exact .inl (Nat.le_trans r3.kp.size hge)
                  · unfold Oj.fsh at hfs; rw [hro] at hfs; cases hfs
              · intro L hL w' hX
                exact hL a w' hX r2 r1 (fun t x hx => by
                  obtain ⟨e1, e2⟩ := frI_lk hx
                  unfold feR
                  rw [e1]
                  exact r3.fr t _ e2)
            · cases h1
          · cases h1
        · cases h1
      · cases h
    · cases h
  · cases h
end
end Go.Sx
