import Derived.Test.YtpinmaodpfoinaaSxW
import Derived.Test.YtpinmaodpfoinaaRl
set_option linter.unusedVariables false
set_option linter.unusedSimpArgs false
namespace Go.Sx
open Go.RowKit Go.Ch
section
variable {P : Program} {T : Tab} {ft : Nat → FT} {ρ ρ' : Pls} {w w' : World} {bs : Bs} {w0 wB : World} {s s' : S} {a : Act} {N m : Nat}

/-! ### a drawn region with a chain of operations that may come up late -/
theorem fin_step {Q : Act → World → Prop} {mk : Nat → Bool} {i : Nat} {d : Option Tmp} {R : Pred} {L : List (Option Tmp × Pred)} {a : Act} {w : World} {D : List Nat} (hD : mk i = false → ∃ x, d = some x ∧ x ∈ D)
    (h1 : ∀ v, R v w → FinM Q mk (i + 1) L (a.put d v) w) (h2 : ∀ x, d = some x → x ∈ D → FinM Q mk (i + 1) L a w) : FinM Q mk i ((d, R) :: L) a w := by
  unfold FinM
  cases hm : mk i with
  | true => rw [if_pos rfl]; exact h1
  | false =>
    rw [if_neg (fun h => Bool.noConfusion h)]
    obtain ⟨x, hx, hx2⟩ := hD hm
    exact h2 x hx hx2
theorem FinM_all {Q : Act → World → Prop} {mk : Nat → Bool} (hm : ∀ i, mk i = true) : ∀ (L : List (Option Tmp × Pred)) (i : Nat) (a : Act) (w : World), FinM Q mk i L a w → Fin Q L a w
  | [], _, _, _, h => h
  | (d, R) :: L, i, a, w, h => by
    unfold FinM at h
    rw [if_pos (hm i)] at h
    exact fun v hv => FinM_all hm L (i + 1) _ w (h v hv)
theorem RW_frL (hT : TabOk P T) (hF : ∀ i, FtOk P (Ext wB) (ft i)) {asm : List (Nat × Bool)} {s0 : S} (hs : okS s0 = true) (hgl : GlR bs ρ s0.gl) (hhp : HpR ρ wB s0.H) {ops : Array Oper} (mk : Nat → Nat → Bool) (D : Nat → List Nat) {Q' : Nat → Act → World → Prop} {st' : Ns} (l : List Oper) :
    ∀ (i : Nat) (st : Ns) (E : Nat → Pred) (K : List (Option Tmp × Pred) → Prop) (g : List Prop), frN T ft N ops asm s0 i l st = some (g, st') → allP g → OkN s0.H.length st → (∀ σ j o, l[j]? = some o → mk σ (i + j) = false → ∃ d, o.dst = some d ∧ d ∈ D σ) →
      (∀ t x, st.fr.lookup t = some x → ∀ v w, Ext wB w → E t v w → feR ρ wB x v w) →
      (∀ σ a w, Ext wB w → a.tmps.size = N → a.defers = [] → OkN s0.H.length st' → (∀ t x, st'.fr.lookup t = some x → t ∉ D σ → feR ρ wB x (a.tmps.getD t undef) w) → Q' σ a w) →
      (∀ L, (∀ σ a w, Ext wB w → a.tmps.size = N → a.defers = [] → (∀ t x, st.fr.lookup t = some x → t ∉ D σ → feR ρ wB x (a.tmps.getD t undef) w) → FinM (Q' σ) (mk σ) i L a w) → K L) → RW P ops Ext wB l E K := by
  induction l with
  | nil =>
    intro i st E K g h hg hok _ _ hQ hK
    injection h with h; simp only [Prod.mk.injEq] at h; obtain ⟨rfl, rfl⟩ := h
    exact hK [] fun σ a w h1 h2 h3 h4 => hQ σ a w h1 h2 h3 hok h4
  | cons o rest ih =>
    intro i st E K g h hg hok hD hE hQ hK
    have hD' : ∀ σ j o, rest[j]? = some o → mk σ (i + 1 + j) = false → ∃ d, o.dst = some d ∧ d ∈ D σ := fun σ j o ho hm => hD σ (j + 1) o (by simpa using ho) (by rw [← hm]; congr 1; omega)
    have hD0 : ∀ σ, mk σ i = false → ∃ d, o.dst = some d ∧ d ∈ D σ := fun σ hm => hD σ 0 o rfl hm
    simp only [frN] at h
    have look : ∀ {t : Nat} {x : Fe}, st.fr.lookup t = some x → ∀ {a : Act} {w : World}, Ext wB w → t ∈ o.looksAt ops → (∀ t ∈ o.looksAt ops, E t (a.tmps.getD t undef) w) → feR ρ wB x (a.tmps.getD t undef) w :=
      fun hx _ _ hX ht hEa => hE _ _ hx _ _ hX (hEa _ ht)
    have opLook : ∀ {t : Nat}, Operand.tmp t ∈ o.op.operands.toList → t ∈ o.looksAt ops := fun hx => List.mem_append_left _ (List.mem_filterMap.2 ⟨.tmp _, by simpa using hx, rfl⟩)
    have gLook : ∀ {j : Nat} {want : Bool} {dj : Nat}, o.guard = some (j, want) → (ops[j]?).bind (·.dst) = some dj → dj ∈ o.looksAt ops := fun hgd hd => by
      unfold Oper.looksAt; rw [hgd]; simp [hd]
    have wnt : ∀ {j : Nat} {want b : Bool} {dj : Nat}, o.guard = some (j, want) → (ops[j]?).bind (·.dst) = some dj → st.fr.lookup dj = some ⟨.c (.s (.b b)), none⟩ → ∀ {a : Act} {w : World}, Ext wB w → (∀ t ∈ o.looksAt ops, E t (a.tmps.getD t undef) w) → Region.wanted o (yielded ops a.tmps) = (b == want) := fun hgd hd hb _ _ hX hEa =>
      wanted_b hgd hd (look hb hX (gLook hgd hd) hEa)
    have skipC : dOk N o.dst = true → (∀ (a : Act) (w : World), Ext wB w → (∀ t ∈ o.looksAt ops, E t (a.tmps.getD t undef) w) → Region.wanted o (yielded ops a.tmps) = false) →
        frN T ft N ops asm s0 (i + 1) rest ⟨putN st.fr o.dst ⟨.t [], none⟩, st.cnt, st.dm⟩ = some (g, st') → RW P ops Ext wB (o :: rest) E K := fun hdk hw h1 => by
      refine ⟨fun v _ => v = undef, fun _ _ _ _ h => h, fun a w hX _ hEa => ?_, ih (i + 1) _ _ _ _ h1 hg ⟨hok.1, fun t x hx => ?_⟩ hD' (fun t x hx v w hX hv => ?_) hQ (fun L hL => hK _ fun σ a w hX hn hd hFr => fin_step (fun hm => hD0 σ hm) (fun v hv => hL σ _ w hX (by rw [put_size]; exact hn) (by rw [put_defers]; exact hd) fun t x hx hnD => ?_) (fun d hdd hdD => hL σ a w hX hn hd fun t x hx hnD => ?_))⟩
      · rw [hw a w hX hEa]
        have e : ¬ (false = true) := fun h => Bool.noConfusion h
        rw [if_neg e]
      · rcases lkPut hx with ⟨_, rfl⟩ | ⟨_, h2⟩
        · rfl
        · exact hok.2 t x h2
      · unfold Go.Ch.upd at hv
        rcases lkPut hx with ⟨hd, rfl⟩ | ⟨h2, h3⟩
        · rw [hd] at hv
          have e : (if t = t then (fun v _ => v = undef) else E t) v w := hv
          rw [if_pos rfl] at e
          exact ⟨[], F2.nil, e⟩
        · refine hE t x h3 v w hX ?_
          cases hd : o.dst with
          | none => rw [hd] at hv; exact hv
          | some d => rw [hd] at hv h2; have e : (if t = d then (fun v _ => v = undef) else E t) v w := hv; rw [if_neg (fun e => h2 (by rw [e]))] at e; exact e
      · rcases lkPut hx with ⟨hd2, rfl⟩ | ⟨h2, h3⟩
        · rw [hd2] at hdk ⊢
          rw [getD_put_same a v t (by have := dOk_ok hdk hn t rfl; exact this)]
          exact ⟨[], F2.nil, hv⟩
        · rw [getD_put_other a o.dst v t h2]
          exact hFr t x h3 hnD
      · rcases lkPut hx with ⟨hd2, rfl⟩ | ⟨h2, h3⟩
        · rw [hd2] at hdd; injection hdd with hdd; subst hdd; exact absurd hdD hnD
        · exact hFr t x h3 hnD
    have doC : ∀ {g1 g2 : List Prop} {x1 : Fe} {c1 : Nat} {d1 : Bool}, stA2 T ft N asm s0 i o st = some (g1, x1, c1, d1) → g = g1 ++ g2 → (∀ (a : Act) (w : World), Ext wB w → (∀ t ∈ o.looksAt ops, E t (a.tmps.getD t undef) w) → Region.wanted o (yielded ops a.tmps) = true) →
        frN T ft N ops asm s0 (i + 1) rest ⟨putN st.fr o.dst x1, c1, d1⟩ = some (g2, st') → RW P ops Ext wB (o :: rest) E K := fun {g1 g2 x1 c1 d1} hA hge hw h1 => by
      subst hge
      obtain ⟨ga, gb⟩ := allP_append.1 hg
      obtain ⟨hdk, ⟨k1, k2, k3⟩, hwp⟩ := stA2_ok hT hF hs hgl hhp hok hA ga
      refine ⟨fun v w => feR ρ wB x1 v w, fun _ _ _ hX h => feR_ext hX h, fun a w hX _ hEa => ?_, ih (i + 1) _ _ _ _ h1 gb ⟨Nat.le_trans hok.1 k1, fun t x hx => ?_⟩ hD' (fun t x hx v w hX hv => ?_) hQ (fun L hL => hK _ fun σ a w hX hn hd hFr => fin_step (fun hm => hD0 σ hm) (fun v hv => hL σ _ w hX (by rw [put_size]; exact hn) (by rw [put_defers]; exact hd) fun t x hx hnD => ?_) (fun d hdd hdD => hL σ a w hX hn hd fun t x hx hnD => ?_))⟩
      · rw [hw a w hX hEa]
        rw [if_pos rfl]; exact hwp a w hX (fun t y hop hy => look hy hX (opLook hop) hEa)
      · rcases lkPut hx with ⟨_, rfl⟩ | ⟨_, h2⟩
        · exact k3
        · have := hok.2 t x h2
          cases hn : x.nw with
          | none => rw [hn] at this; exact this
          | some io => obtain ⟨i', ob⟩ := io; rw [hn] at this; exact ⟨this.1, Nat.lt_of_lt_of_le this.2.1 k1, this.2.2.1, this.2.2.2.1, fun e => k2 (this.2.2.2.2 e)⟩
      · unfold Go.Ch.upd at hv
        rcases lkPut hx with ⟨hd, rfl⟩ | ⟨hd, h2⟩
        · rw [hd] at hv
          have e : (if t = t then (fun v w => feR ρ wB x v w) else E t) v w := hv
          rw [if_pos rfl] at e
          exact e
        · refine hE t x h2 v w hX ?_
          cases hd2 : o.dst with
          | none => rw [hd2] at hv; exact hv
          | some d => rw [hd2] at hv hd; have e : (if t = d then (fun v w => feR ρ wB x1 v w) else E t) v w := hv; rw [if_neg (fun e => hd (by rw [e]))] at e; exact e
      · rcases lkPut hx with ⟨hd2, rfl⟩ | ⟨hd2, h2⟩
        · rw [hd2] at hdk ⊢
          rw [getD_put_same a v t (by have := dOk_ok hdk hn t rfl; exact this)]
          exact hv
        · rw [getD_put_other a o.dst v t hd2]
          exact hFr t x h2 hnD
      · rcases lkPut hx with ⟨hd2, rfl⟩ | ⟨hd2, h2⟩
        · rw [hd2] at hdd; injection hdd with hdd; subst hdd; exact absurd hdD hnD
        · exact hFr t x h2 hnD
    split at h
    · cases h
    · rename_i hG
      split at h
      · rename_i hdk
        unfold stG2 at hG
        split at hG
        · split at hG <;> cases hG
        · rename_i j want hgd
          split at hG
          · cases hG
          · rename_i dj hdj
            split at hG
            · rename_i b hb
              split at hG
              · split at hG <;> cases hG
              · rename_i hbw
                exact skipC hdk (fun a w hX hEa => by rw [wnt hgd hdj hb hX hEa]; exact hbw) h
            · rename_i hb
              exact skipC hdk (fun a w hX hEa => wanted_u hgd hdj (undef_of (look hb hX (gLook hgd hdj) hEa))) h
            · cases hG
      · cases h
    · rename_i g1 x1 c1 d1 hG
      split at h
      · cases h
      · rename_i g2 st2 h2
        injection h with h; simp only [Prod.mk.injEq] at h; obtain ⟨rfl, rfl⟩ := h
        unfold stG2 at hG
        split at hG
        · rename_i hgd
          split at hG
          · rename_i r hr
            injection hG with hG; injection hG with hG; subst hG
            exact doC hr rfl (fun a w _ _ => by unfold Region.wanted; rw [hgd]) h2
          · cases hG
        · rename_i j want hgd
          split at hG
          · cases hG
          · rename_i dj hdj
            split at hG
            · rename_i b hb
              split at hG
              · rename_i hbw
                split at hG
                · rename_i r hr
                  injection hG with hG; injection hG with hG; subst hG
                  exact doC hr rfl (fun a w hX hEa => by rw [wnt hgd hdj hb hX hEa]; exact hbw) h2
                · cases hG
              · cases hG
            · cases hG
            · cases hG

theorem rel_free (hs : okS s = true) (r3 : RelA ρ bs w0 s a w) {st : Ns} (hok : OkN s.H.length st) {ks : List (Nat × Bool)} {fr : Fr} {os : List Oj} {a' : Act} (hE : ∀ t x, t ∈ ks.map Prod.fst → st.fr.lookup t = some x → feR ρ w.drew x (a'.tmps.getD t undef) w')
    (has : asmN s.H.length st.fr 0 ks = some (fr, os)) (hsI : okS ⟨s.fr, s.gl, demI st.dm s.H⟩ = true) (hap : apL os = true) (hX : Ext w.drew w') (hn : a'.tmps.size = N) (hd : a'.defers = []) : Rel N bs w0 ⟨fr, s.gl, demI st.dm s.H ++ os⟩ a' w' := by
  have hxd : ∀ {w' : World}, Ext w.drew w' → Kp bs w0 w' := fun hx => (r3.kp.drew).ext hx
  obtain ⟨ps, hl, hps, hfin⟩ := asmN_ok hok ks 0 fr os hE has
  have hlenI : (demI st.dm s.H).length = s.H.length := by unfold demI; split; exact demO_len _; rfl
  have hRI : RelA ρ bs w0 ⟨s.fr, s.gl, demI st.dm s.H⟩ a w := by
    unfold demI; split
    · exact r3.dem
    · exact r3
  refine ⟨hd, hn, updL ρ s.H.length ps, ?_⟩
  have hsep := apL_ok hap
  have hU : ∀ i, i < s.H.length → updL ρ s.H.length ps i = ρ i := updL_lt
  have hUat : ∀ (k : Nat) (p : Pl), ps[k]? = some p → updL ρ s.H.length ps (s.H.length + k) = p := fun k p hp => updL_at hp
  have hold : ∀ {j : Nat} {x : Oj} {g : Nat}, (demI st.dm s.H)[j]? = some x → objAt (ρ j) x g → g < w.heap.size := fun hj hat => objAt_lt (hRI.hp _ _ hj) hat
  have e : updL ρ s.H.length ps = updL ρ (demI st.dm s.H).length ps := by rw [hlenI]
  have hobj : ∀ (k : Nat) (o : Oj) (p : Pl), os[k]? = some o → ps[k]? = some p → objR (updL ρ s.H.length ps) w' p o := fun k o p ho hp => (hps k o p ho hp).1 _ hU
  have sep2 : ∀ (k l : Nat) (o o' : Oj) (p p' : Pl) (g : Nat), k ≠ l → os[k]? = some o → os[l]? = some o' → ps[k]? = some p → ps[l]? = some p' → o.own = true → objAt p o g → ¬ objAt p' o' g := by
    intro k l o o' p p' g hkl ho ho' hp hp' hown hat hat'
    rcases Nat.lt_or_gt_of_ne hkl with hlt | hlt
    · exact ap_sep (hsep k l o o' hlt ho ho') (hobj k o p ho hp) (hobj l o' p' ho' hp') (.inl hown) hat hat'
    · exact ap_sep (hsep l k o' o hlt ho' ho) (hobj l o' p' ho' hp') (hobj k o p ho hp) (.inr hown) hat' hat
  have place : ∀ (k : Nat) (o : Oj) (p : Pl) (g : Nat), os[k]? = some o → ps[k]? = some p → objAt p o g → w.heap.size ≤ g ∨ o.kd = .ro false := fun k o p g ho hp hat => (hps k o p ho hp).2.1 g hat
  have hfr := hfin _ hU (fun k p hp => by have := hUat k p hp; simpa using this)
  rw [e] at hobj hfr ⊢
  refine RelA.news (w := w) (s := ⟨s.fr, s.gl, demI st.dm s.H⟩) hRI hsI hl rfl (fun j x hj => .inr ⟨hj, (hRI.hp j x hj).keep fun g hlt _ => hX.block g hlt⟩) (hxd hX) hobj (fun k o p j x g ho hp hj hxk hat hor hat2 => ?_) sep2 (fun k o p ho hp hfs g hat => ?_) _ _ hfr
  · rcases place k o p g ho hp hat with hge | hro
    · have := hold hj hat2
      omega
    · have hyes := (hps k o p ho hp).2.2 hro
      have hj2 : (demO s.H)[j]? = some x := by rw [hyes] at hj; exact hj
      obtain ⟨_, _, hno, _⟩ := demO_at hj2
      rcases hor with h1 | h1
      · rw [hno] at h1; cases h1
      · unfold Oj.own at h1; rw [hro] at h1; cases h1
  · rcases place k o p g ho hp hat with hge | hro
    · exact .inl (Nat.le_trans r3.kp.size hge)
    · unfold Oj.fsh at hfs; rw [hro] at hfs; cases hfs
def exI (T : Tab) (ft : Nat → FT) (N : Nat) (ops : Array Oper) (asm : List (Nat × Bool)) : List Nat → S → Option (List Prop × S)
  | [], s => some ([], s)
  | i :: is, s => match ops[i]? with
    | none => none
    | some o => match stG T ft N ops asm i o s with
      | none => none
      | some (g, s1) => match exI T ft N ops asm is s1 with
        | none => none
        | some (g2, s2) => some (g ++ g2, s2)
theorem exI_ok (hT : TabOk P T) (hF : ∀ i, FtOk P (Kp bs w0) (ft i)) {ops : Array Oper} {asm : List (Nat × Bool)} {Q : Exit → Act → World → Prop} (is : List Nat) : ∀ (g : List Prop) (s : S) (a : Act) (w : World), exI T ft N ops asm is s = some (g, s') → allP g → Rel N bs w0 s a w →
    (∀ a' w', Rel N bs w0 s' a' w' → Q .normal a' w') → wpList P ops Q (is.filterMap (ops[·]?)) a w := by
  induction is with
  | nil =>
    intro g s a w h hg hR hQ
    injection h with h; simp only [Prod.mk.injEq] at h; obtain ⟨rfl, rfl⟩ := h
    exact hQ a w hR
  | cons i is ih =>
    intro g s a w h hg hR hQ
    simp only [exI] at h
    split at h
    · cases h
    · rename_i o ho
      split at h
      · cases h
      · rename_i g1 s1 h1
        split at h
        · cases h
        · rename_i g2 s2 h2
          injection h with h; simp only [Prod.mk.injEq] at h; obtain ⟨rfl, rfl⟩ := h
          obtain ⟨ga, gb⟩ := allP_append.1 hg
          rw [List.filterMap_cons, ho]
          exact stG_ok hT hF h1 ga hR (fun a' w' hr => ih g2 s1 a' w' h2 gb hr hQ)
def dL (ops : List Oper) (S : List Nat) : List Nat := S.filterMap fun d => (ops[d]?).bind (·.dst)
/-- one scenario: what is kept of the free part, what runs then -/
def scnL (T : Tab) (ft : Nat → FT) (N k : Nat) (asm ks : List (Nat × Bool)) (D : List Nat) (run : S → Option (List Prop × S)) (cs : List Co) (live objs : List Nat) (ops : List Oper) (s : S) : Option (List Prop × S) :=
  match okS s, frN T ft N ops.toArray asm s 0 (ops.take k) ⟨frI s.fr, s.H.length, false⟩ with
  | true, some (g, st) => (match ks.all (fun p => !D.contains p.1), asmN s.H.length st.fr 0 ks with
    | true, some (fr, os) => (match okS ⟨s.fr, s.gl, demI st.dm s.H⟩, apL os with
      | true, true => (match run ⟨fr, s.gl, demI st.dm s.H ++ os⟩ with
        | some (g2, s2) => (match after cs live objs s2 with | some s3 => some (g ++ g2, s3) | none => none)
        | none => none)
      | _, _ => none)
    | _, _ => none)
  | _, _ => none
theorem scnL_ok {k : Nat} {asm ks : List (Nat × Bool)} {D : List Nat} {run : S → Option (List Prop × S)} {cs : List Co} {live objs : List Nat} {ops : List Oper} {g : List Prop} (h : scnL T ft N k asm ks D run cs live objs ops s = some (g, s')) (hg : allP g) :
    okS s = true ∧ ∃ g1 st, frN T ft N ops.toArray asm s 0 (ops.take k) ⟨frI s.fr, s.H.length, false⟩ = some (g1, st) ∧ allP g1 ∧
      ∀ (ρ : Pls) (a : Act) (w : World) (a' : Act) (w' : World), RelA ρ bs w0 s a w → OkN s.H.length st → (∀ t x, st.fr.lookup t = some x → t ∉ D → feR ρ w.drew x (a'.tmps.getD t undef) w') → Ext w.drew w' → a'.tmps.size = N → a'.defers = [] →
        ∃ s1 g2 s2, run s1 = some (g2, s2) ∧ allP g2 ∧ Rel N bs w0 s1 a' w' ∧ after cs live objs s2 = some s' := by
  unfold scnL at h
  split at h
  · rename_i g1 st hs hfr
    split at h
    · rename_i fr os hD has
      split at h
      · rename_i hsI hap
        split at h
        · rename_i g2 s2 hrun
          split at h
          · rename_i s3 h3
            injection h with h; simp only [Prod.mk.injEq] at h; obtain ⟨rfl, rfl⟩ := h
            obtain ⟨ga, gb⟩ := allP_append.1 hg
            refine ⟨hs, g1, st, hfr, ga, fun ρ a w a' w' r3 hok hE hX hn hd => ⟨_, g2, s2, hrun, gb, rel_free hs r3 hok (fun t x ht hx => hE t x hx ?_) has hsI hap hX hn hd, h3⟩⟩
            obtain ⟨p, hp, rfl⟩ := List.mem_map.1 ht
            have := List.all_eq_true.1 hD p hp
            simpa using this
          · cases h
        · cases h
      · cases h
    · cases h
  · cases h
theorem W_regL (hT : TabOk P T) (hF : ∀ i, FtOk P (Kp bs w0) (ft i)) (hm : P.follows .mixedOrders = true) {id : Nat} {l : List Oper} (k : Nat) (late : List Nat) (asm : List (Nat × Bool)) (cs : List Co) (live objs : List Nat) {s' : S} (ksF : List (Nat × Bool)) (kss : List (List (Nat × Bool)))
    (hr : (okRegionL l.toArray k N late && (chainB l.toArray late && ((decide (k < l.toArray.size) && late.all (fun d => decide (d < k))) && (((List.range late.length).all fun s => forcedB l.toArray ((maskL k l.toArray.size (late.drop s)).setIfInBounds k true) (late.drop s ++ (List.range l.toArray.size).drop (k + 1)) && decide ((late.drop s).length ≤ Go.Ch.cnt (fun j => (maskL k l.toArray.size (late.drop s)).getD j true) k)) && late.all (fun d => ((l[d]?).bind (·.dst)).isSome))))) = true)
    (hfull : ∃ g, scnL T ft N k asm ksF [] (exR T ft N l.toArray asm k (l.drop k)) cs live objs l s = some (g, s') ∧ allP g)
    (hlate : ∀ sc, sc < late.length → ∃ g, scnL T ft N k asm (kss.getD sc []) (dL l (late.drop sc)) (exI T ft N l.toArray asm (k :: late.drop sc ++ (List.range l.toArray.size).drop (k + 1))) cs live objs l s = some (g, s') ∧ allP g)
    {Q : Exit → S → Prop} (hQ : Q .normal s') : W P N bs w0 (.region id l.toArray true) s Q := by
  intro a w hR
  simp only [Bool.and_eq_true] at hr
  obtain ⟨h1, h2, ⟨h3a, h3b⟩, h4, h5⟩ := hr
  obtain ⟨gF, hF1, hF2⟩ := hfull
  obtain ⟨hs, g1, st, hfr, ga, hcont⟩ := scnL_ok (bs := bs) (w0 := w0) hF1 hF2
  obtain ⟨r1, r2, ρ, r3⟩ := hR
  have hxd : ∀ {w' : World}, Ext w.drew w' → Kp bs w0 w' := fun hx => (r3.kp.drew).ext hx
  have hhp : HpR ρ w.drew s.H := fun i o ho => (r3.hp i o ho).keep fun _ _ _ => rfl
  refine wp_region_rel_l k N late Ext hm h1 h2 (by simp only [Bool.and_eq_true]; exact ⟨h3a, h3b⟩) h4 r2 r1 (fun w => Below.refl _ _) (fun _ _ _ h1 h2 => Ext.tr h1 h2) ?_
  refine RW_frL hT (fun i f F h => ⟨fun args H g av objs h1 h2 ρ w' vals h3 => (hF i f F h).1 args H g av objs h1 h2 ρ w' vals (hxd h3), (hF i f F h).2⟩) hs r3.gl hhp (fun σ j => !(late.drop σ).contains j) (fun σ => dL l (late.drop σ))
    (Q' := fun σ a' w' => if σ < late.length then wpList P l.toArray (fun ex a' w' => ∃ s', Q ex s' ∧ Rel N bs w0 s' a' w') ((k :: late.drop σ ++ (List.range l.toArray.size).drop (k + 1)).filterMap (l.toArray[·]?)) a' w' else wpList P l.toArray (fun ex a' w' => ∃ s', Q ex s' ∧ Rel N bs w0 s' a' w') (l.drop k) a' w') (l.take k) 0 _ _ _ _ hfr ga ?_ ?_ ?_ ?_ ?_
  · exact ⟨Nat.le_refl _, fun t x hx => by
      obtain ⟨e1, e2⟩ := frI_lk hx
      rw [e1]
      exact ltA_p (ltF_ok (okS_ok hs).1 t _ e2)⟩
  · intro σ j o hj hmk
    have hmem : j ∈ late.drop σ := by
      rw [Nat.zero_add] at hmk
      simpa using hmk
    have hjl : j ∈ late := List.mem_of_mem_drop hmem
    have hd := List.all_eq_true.1 h5 j hjl
    have hlj : l[j]? = some o := by
      rw [List.getElem?_take] at hj
      split at hj
      · exact hj
      · cases hj
    rw [hlj] at hd
    simp only [Option.bind_some] at hd
    cases hdd : o.dst with
    | none => rw [hdd] at hd; cases hd
    | some d => exact ⟨d, rfl, List.mem_filterMap.2 ⟨j, hmem, by rw [hlj]; exact hdd⟩⟩
  · intro t x hx v w' hX hv
    obtain ⟨e1, e2⟩ := frI_lk hx
    unfold feR
    rw [e1]
    have hv' : v = a.tmps.getD t undef := hv
    subst hv'
    exact r3.fr t _ e2
  · intro σ a' w' hX hn hd hok hE
    by_cases hσ : σ < late.length
    · rw [if_pos hσ]
      obtain ⟨g, hg1, hg2⟩ := hlate σ hσ
      obtain ⟨_, g1', st', hfr', _, hcont'⟩ := scnL_ok (bs := bs) (w0 := w0) hg1 hg2
      rw [hfr] at hfr'; injection hfr' with hfr'; simp only [Prod.mk.injEq] at hfr'; obtain ⟨rfl, rfl⟩ := hfr'
      obtain ⟨s1, g2, s2, hrun, gb, hrel, haf⟩ := hcont' ρ a w a' w' r3 hok hE hX hn hd
      exact exI_ok hT hF _ g2 s1 a' w' hrun gb hrel (fun a2 w2 hr => ⟨_, hQ, after_ok haf hr⟩)
    · rw [if_neg hσ]
      have hD0 : late.drop σ = [] := List.drop_of_length_le (by omega)
      rw [hD0] at hE
      obtain ⟨s1, g2, s2, hrun, gb, hrel, haf⟩ := hcont ρ a w a' w' r3 hok (fun t x hx _ => hE t x hx (by simp [dL])) hX hn hd
      exact exR_ok hT hF _ k g2 s1 a' w' hrun gb hrel (fun a2 w2 hr => ⟨_, hQ, after_ok haf hr⟩)
  · intro L hL
    have start : ∀ σ w', Ext w.drew w' → FinM _ _ 0 L a w' := fun σ w' hX => hL σ a w' hX r2 r1 (fun t x hx _ => by
      obtain ⟨e1, e2⟩ := frI_lk hx
      unfold feR
      rw [e1]
      exact r3.fr t _ e2)
    refine ⟨fun w' hX => ?_, fun sc hsc w' hX => ?_⟩
    · have := FinM_all (fun i => by simp) L 0 a w' (start late.length w' hX)
      simpa only [if_neg (Nat.lt_irrefl late.length)] using this
    · have := start sc w' hX
      simpa only [if_pos hsc] using this
end
end Go.Sx
